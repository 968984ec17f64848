/-
  Walks: the words of a line, token.Words and its reference.
-/
import Derived.Test.YtelcmkccfjdmjaaGreatDoorProg
import Derived.Test.YtelcmkccfjdmjaaGreatDoorTokA
import Derived.Test.YtelcmkccfjdmjaaGreatDoorTokB
namespace Go.Proofs.YtelcmkccfjdmjaaGreatDoor
open Go.Proofs Go.RowKit Go.Shelf

/-- what Words leaves -/
def WordsPost (w : World) (r : List ByteArray × Int) (e : Ending) (w' : World) : Prop :=
  ∃ ao cap, e = .returned (.tuple #[.slice ao r.1.length cap, .int .i64 r.2]) ∧ Cel w' ao (r.1.map encS) ∧ Below w.heap.size w w'

/-- the same, and that there is room for its length -/
def WordsPostC (w : World) (r : List ByteArray × Int) (e : Ending) (w' : World) : Prop :=
  ∃ ao cap, e = .returned (.tuple #[.slice ao r.1.length cap, .int .i64 r.2]) ∧ Cel w' ao (r.1.map encS) ∧ Below w.heap.size w w' ∧ r.1.length ≤ cap
theorem owns_capW {w : World} {base : Nat} {e : TypeId} {size n c : Nat} {ao : Option Addr} {xs : List Value} (h : w.ownsRow base e size (.slice ao n c) n xs) : n ≤ c := by
  rcases h.2 with ⟨e, h0⟩ | ⟨g, cap, cur, e, _, _, h1, _⟩
  · cases e; omega
  · cases e; exact h1

set_option maxHeartbeats 1000000 in
theorem refWords_own (s : ByteArray) (w : World) (hs : s.size ≤ 140737488355328) :
    Calls Tryz.prog 105 #[.string s] w (WordsPostC w (wordsF s)) := by
  by_cases hbig : 65536 < s.size
  · have HR := Lib.hid (wordsF_big hbig)
    generalize wordsF s = r at *
    go_enter Tryz.func105, Tryz.ntmps105
    go_wp2
    go_ret2
    exact ⟨none, 0, by rw [HR.out]; rfl, by rw [HR.out]; exact Cel.nil _ _, Below.refl _ _, by rw [HR.out]; exact Nat.le_refl _⟩
  · have hs2 : s.size ≤ 65536 := by omega
    have HBIG := Lib.hid hbig
    have HBAD := Lib.hid (wordsF_bad hbig)
    have HMANY := Lib.hid (@wordsF_many s · hbig)
    have HOK := Lib.hid (@wordsF_ok s · hbig)
    clear hbig
    generalize wordsF s = r at *
    go_enter Tryz.func105, Tryz.ntmps105
    go_wp2
    go_loopg [4, 5, 6] (s.size + 1) (fun g v f i wr => ∃ (k fr cap : Nat) (ao : Option Addr) (O : List ByteArray), k ≤ s.size + 1 ∧ s.size + 1 - k ≤ g ∧ i = .int .i64 k ∧ f = .int .i64 fr ∧ fr ≤ k ∧ O.length ≤ k ∧ v = .slice ao O.length cap ∧ w.heap.size ≤ wr.heap.size ∧
      Aside ((k ≤ s.size → WS s k fr O) ∧ (k = s.size + 1 → wordsGo s.data.toList [] [] = some O)) ∧ Aside (wr.ownsRow w.heap.size 9 1 (.slice ao O.length cap) O.length (O.map encS) ∧ Below w.heap.size w wr))
    case atStart => exact ⟨0, 0, 0, none, [], by omega, by omega, rfl, rfl, by omega, by simp, rfl, Nat.le_refl _, ⟨fun _ => ws_start s, fun h => by omega⟩, World.ownsRow_nil _ _ _ _, Below.refl _ _⟩
    case round =>
      obtain ⟨k, fr, cap, ao, O, hk, hg, rfl, rfl, hf, hO, rfl, hsz, HW, HA⟩ := hrel
      by_cases hlt : k < s.size
      · have HC := Lib.hid (refsign_any s[k])
        have HW1 := Lib.hid (HW.out.1 (by omega))
        have H1 := Lib.hid (fun h => ws_sign HW1.out hlt h)
        have H2 := Lib.hid (fun h h2 h3 => ws_blank_new HW1.out hlt h h2 h3)
        have H3 := Lib.hid (fun (h : signB s[k] = false) (h2 : blankB s[k] = true) (h3 : fr = k) => (by subst h3; exact ws_blank_old HW1.out hlt h h2 : WS s (k + 1) (k + 1) O))
        have H4 := Lib.hid (fun h h2 => ws_bad HW1.out hlt h h2)
        have hkk : (k : Int) ≤ (s.size : Int) := by omega
        cases hq : signB s[k] with
        | true =>
          have HQ := Lib.hid hq
          rw [hq] at HC
          clear hq
          go_wp2_with (go_at_call 96; refine (HC.out _).mono ?_; rintro e w1 ⟨rfl, rfl⟩)
          go_roundg (s.size + 1 - (k + 1))
          case measure => omega
          case rel => exact ⟨k + 1, fr, cap, ao, O, by omega, by omega, by go_num, rfl, by omega, by omega, rfl, hsz, ⟨fun _ => H1.out HQ.out, fun h => by omega⟩, HA.out⟩
        | false =>
          have HQ := Lib.hid hq
          rw [hq] at HC
          clear hq
          cases hb : blankB s[k] with
          | true =>
            have HB := Lib.hid hb
            have hor : (s[k].toNat : Int) = 32 ∨ (s[k].toNat : Int) ≠ 32 ∧ (s[k].toNat : Int) = 9 := by
              have : s[k].toNat = 32 ∨ s[k].toNat = 9 := by simpa [blankB] using hb
              omega
            clear hb
            have hor2 : ((s[k].toNat : Int) != 32) = false ∨ ((s[k].toNat : Int) != 32) = true ∧ ((s[k].toNat : Int) != 9) = false := by
              rcases hor with h | ⟨h, h2⟩
              · exact .inl (by simp [h])
              · exact .inr ⟨by simp [h], by simp [h2]⟩
            clear hor
            by_cases hf2 : fr < k
            · rcases hor2 with e1 | ⟨e1, e2⟩
              all_goals
                go_wp2_with (first
                | (go_at_call 96; refine (HC.out _).mono ?_; rintro e w1 ⟨rfl, rfl⟩)
                | (at_builtin; go_must ((with_reducible refine wpList_app w.heap.size 9 _ 1 16 elem_string Tryz.underlying26 (.slice ao O.length cap) O.length _ ⟨wr.heap.size, 0, none⟩ 1 1 ?_ ?_ ?_ (World.ownsRow.alloc HA.out.1 _) ?_ ?_ ?_ ?_); rotate_left 1; (· rfl); (· rfl); (· exact cell_one_new _ _ _); (· exact one_cells rfl); (· exact ⟨rfl, by decide, by omega, by omega, by simp; omega⟩); intro g1 cap1 w1 hown hgrow hbl hat hlt1; (have H1o := Lib.hid hown; have H1b := Lib.hid hbl; have H1g := Lib.hid (And.intro hgrow hat); clear hown hgrow hbl hat))))
                go_roundg (s.size + 1 - (k + 1))
                case measure => omega
                case rel =>
                  refine ⟨k + 1, k + 1, cap1, some ⟨g1, 0, none⟩, O ++ [s.extract fr k], by omega, by omega, by go_num, by go_num, by omega, by simp; omega, by simp, by have := H1b.out.size; simp at this; omega, ⟨fun _ => H2.out HQ.out HB.out hf2, fun h => by omega⟩, ?_, HA.out.2.trans ((Below.alloc (Below.refl _ _) hsz _).trans H1b.out)⟩
                  rw [List.length_append, List.map_append]
                  exact H1o.out
            · rcases hor2 with e1 | ⟨e1, e2⟩
              all_goals
                go_wp2_with (first
                | (go_at_call 96; refine (HC.out _).mono ?_; rintro e w1 ⟨rfl, rfl⟩)
                | (at_builtin; go_must ((with_reducible refine wpList_app w.heap.size 9 _ 1 16 elem_string Tryz.underlying26 (.slice ao O.length cap) O.length _ ⟨wr.heap.size, 0, none⟩ 1 1 ?_ ?_ ?_ (World.ownsRow.alloc HA.out.1 _) ?_ ?_ ?_ ?_); rotate_left 1; (· rfl); (· rfl); (· exact cell_one_new _ _ _); (· exact one_cells rfl); (· exact ⟨rfl, by decide, by omega, by omega, by simp; omega⟩); intro g1 cap1 w1 hown hgrow hbl hat hlt1; (have H1o := Lib.hid hown; have H1b := Lib.hid hbl; have H1g := Lib.hid (And.intro hgrow hat); clear hown hgrow hbl hat))))
                go_roundg (s.size + 1 - (k + 1))
                case measure => omega
                case rel => exact ⟨k + 1, k + 1, cap, ao, O, by omega, by omega, by go_num, by go_num, by omega, by omega, rfl, hsz, ⟨fun _ => H3.out HQ.out HB.out (by omega), fun h => by omega⟩, HA.out⟩
          | false =>
            have e1 : ((s[k].toNat : Int) != 32) = true := by
              have : ¬ s[k].toNat = 32 := by intro h; simp [blankB, h] at hb
              simp; omega
            have e2 : ((s[k].toNat : Int) != 9) = true := by
              have : ¬ s[k].toNat = 9 := by intro h; simp [blankB, h] at hb
              simp; omega
            have HR := Lib.hid (HBAD.out (H4.out HQ.out hb))
            clear hb
            go_wp2_with (first
              | (go_at_call 96; refine (HC.out _).mono ?_; rintro e w1 ⟨rfl, rfl⟩)
              | (at_builtin; go_must ((with_reducible refine wpList_app w.heap.size 9 _ 1 16 elem_string Tryz.underlying26 (.slice ao O.length cap) O.length _ ⟨wr.heap.size, 0, none⟩ 1 1 ?_ ?_ ?_ (World.ownsRow.alloc HA.out.1 _) ?_ ?_ ?_ ?_); rotate_left 1; (· rfl); (· rfl); (· exact cell_one_new _ _ _); (· exact one_cells rfl); (· exact ⟨rfl, by decide, by omega, by omega, by simp; omega⟩); intro g1 cap1 w1 hown hgrow hbl hat hlt1; (have H1o := Lib.hid hown; have H1b := Lib.hid hbl; have H1g := Lib.hid (And.intro hgrow hat); clear hown hgrow hbl hat))))
            go_ret2
            exact ⟨none, 0, by rw [HR.out]; rfl, by rw [HR.out]; exact Cel.nil _ _, HA.out.2, by rw [HR.out]; exact Nat.le_refl _⟩
      · by_cases hlt2 : k = s.size
        · subst hlt2
          have HW1 := Lib.hid (HW.out.1 (Nat.le_refl _))
          by_cases hf2 : fr < s.size
          · have H2 := Lib.hid (ws_end_new HW1.out hf2)
            go_wp2_with (first
              | (go_at_call 96; refine (HC.out _).mono ?_; rintro e w1 ⟨rfl, rfl⟩)
              | (at_builtin; go_must ((with_reducible refine wpList_app w.heap.size 9 _ 1 16 elem_string Tryz.underlying26 (.slice ao O.length cap) O.length _ ⟨wr.heap.size, 0, none⟩ 1 1 ?_ ?_ ?_ (World.ownsRow.alloc HA.out.1 _) ?_ ?_ ?_ ?_); rotate_left 1; (· rfl); (· rfl); (· exact cell_one_new _ _ _); (· exact one_cells rfl); (· exact ⟨rfl, by decide, by omega, by omega, by simp; omega⟩); intro g1 cap1 w1 hown hgrow hbl hat hlt1; (have H1o := Lib.hid hown; have H1b := Lib.hid hbl; have H1g := Lib.hid (And.intro hgrow hat); clear hown hgrow hbl hat))))
            go_roundg (s.size + 1 - (s.size + 1))
            case measure => omega
            case rel =>
              refine ⟨s.size + 1, s.size + 1, cap1, some ⟨g1, 0, none⟩, O ++ [s.extract fr s.size], by omega, by omega, by go_num, by go_num, by omega, by simp; omega, by simp, by have := H1b.out.size; simp at this; omega, ⟨fun h => by omega, fun h => H2.out⟩, ?_, HA.out.2.trans ((Below.alloc (Below.refl _ _) hsz _).trans H1b.out)⟩
              rw [List.length_append, List.map_append]
              exact H1o.out
          · have e : fr = s.size := by omega
            have e2 := HW1.out
            rw [e] at e2
            have H2 := Lib.hid (ws_end_old e2)
            clear e e2
            go_wp2
            go_roundg (s.size + 1 - (s.size + 1))
            case measure => omega
            case rel => exact ⟨s.size + 1, s.size + 1, cap, ao, O, by omega, by omega, by go_num, by go_num, by omega, by omega, rfl, hsz, ⟨fun h => by omega, fun h => H2.out⟩, HA.out⟩
        · obtain rfl : k = s.size + 1 := by omega
          have H5 := Lib.hid (HW.out.2 rfl)
          by_cases hmany : 16384 < O.length
          · have HR := Lib.hid (HMANY.out O H5.out hmany)
            go_wp2
            go_ret2
            exact ⟨none, 0, by rw [HR.out]; rfl, by rw [HR.out]; exact Cel.nil _ _, HA.out.2, by rw [HR.out]; exact Nat.le_refl _⟩
          · have HR := Lib.hid (HOK.out O H5.out hmany)
            go_wp2
            go_ret2
            obtain ⟨ao', cap', e, h1⟩ := Cel.of_owns HA.out.1
            cases e
            exact ⟨ao, cap, by rw [HR.out]; rfl, by rw [HR.out]; exact h1, HA.out.2, by rw [HR.out]; exact owns_capW HA.out.1⟩

theorem refWords_any (s : ByteArray) (w : World) (hs : s.size ≤ 140737488355328) :
    Calls Tryz.prog 105 #[.string s] w (WordsPost w (wordsF s)) :=
  (refWords_own s w hs).mono fun _ _ ⟨ao, cap, h1, h2, h3, _⟩ => ⟨ao, cap, h1, h2, h3⟩

def TWJ (s : ByteArray) (w0 : World) (n l : Nat) (a : Act) (w : World) : Prop :=
  ∃ u, a = lit 58 u ∧ u 0 = .string s ∧ ∃ (k cap : Nat) (ao : Option Addr) (O : List ByteArray), u 2 = .slice ao O.length cap ∧ u 4 = .int .i64 k ∧ k ≤ s.size ∧ O.length ≤ k ∧ w0.heap.size ≤ w.heap.size ∧
    Aside (w.ownsRow w0.heap.size 9 1 (.slice ao O.length cap) O.length (O.map encS) ∧ Below w0.heap.size w0 w) ∧
    (l = 0 ∧ Aside (WS s k k O) ∧ s.size - k + 1 ≤ n ∨ l = 1 ∧ Aside (wordsGo s.data.toList [] [] = some O))

set_option maxHeartbeats 1000000 in
theorem Words_own (s : ByteArray) (w : World) (hs : s.size ≤ 140737488355328) :
    Calls Tryz.prog 69 #[.string s] w (WordsPostC w (wordsF s)) := by
  by_cases hbig : 65536 < s.size
  · have HR := Lib.hid (wordsF_big hbig)
    generalize wordsF s = r at *
    go_enter Tryz.func69, Tryz.ntmps69
    repeat go_step
    go_step3
    go_wp2
    rw [Exit.noGoto_ret]
    go_ret2
    exact ⟨none, 0, by rw [HR.out]; rfl, by rw [HR.out]; exact Cel.nil _ _, Below.refl _ _, by rw [HR.out]; exact Nat.le_refl _⟩
  · have hs2 : s.size ≤ 65536 := by omega
    have HBAD := Lib.hid (wordsF_bad hbig)
    have HMANY := Lib.hid (@wordsF_many s · hbig)
    have HOK := Lib.hid (@wordsF_ok s · hbig)
    clear hbig
    generalize wordsF s = r at *
    go_enter Tryz.func69, Tryz.ntmps69
    repeat go_step
    refine wp_scope_into 0 (s.size + 1) (TWJ s w) rfl ?_ ?_ ?_ ?_
    · rintro n n' l a w' hn ⟨u, h1, h2, k, cap, ao, O, h3, h4, h5, h6, h7, h8, h9⟩
      refine ⟨u, h1, h2, k, cap, ao, O, h3, h4, h5, h6, h7, h8, ?_⟩
      rcases h9 with ⟨a1, a2, a3⟩ | h9
      · exact .inl ⟨a1, a2, by omega⟩
      · exact .inr h9
    · intro hcont
      have HCONT := Lib.hid hcont
      clear hcont
      repeat go_step
      go_step3
      go_step
      go_step
      refine HCONT.out _ _ ?_
      exact ⟨_, lit_of 58 _ rfl rfl, rfl, 0, 0, none, [], rfl, rfl, by omega, by simp, Nat.le_refl _, ⟨World.ownsRow_nil _ _ _ _, Below.refl _ _⟩, .inl ⟨rfl, ws_start s, by omega⟩⟩
    · rintro n a wr ⟨u, rfl, h0, k, cap, ao, O, h2, h4, hk, hO, hsz, HA, ⟨_, HW, hn⟩ | ⟨h, _⟩⟩
      · simp only [lit, List.range, List.range.loop, List.map_cons, List.map_nil, h0, h2, h4]
        clear h0 h2 h4
        have HK := Lib.hid hk
        repeat go_step
        go_loopg [4] s.size (fun g i wr2 => ∃ k1 : Nat, k ≤ k1 ∧ k1 ≤ s.size ∧ s.size - k1 ≤ g ∧ i = .int .i64 k1 ∧ wr2 = wr ∧ Aside (WS s k1 k1 O))
        case atStart => exact ⟨k, Nat.le_refl _, hk, by omega, rfl, rfl, HW.out⟩
        case round =>
          clear HW
          obtain ⟨k1, hkk, hk1, hg1, rfl, rfl, HW⟩ := hrel
          by_cases hlt : k1 < s.size
          · cases hb : blankB s[k1] with
            | true =>
              have hor : (s[k1].toNat : Int) = 32 ∨ (s[k1].toNat : Int) ≠ 32 ∧ (s[k1].toNat : Int) = 9 := by
                have : s[k1].toNat = 32 ∨ s[k1].toNat = 9 := by simpa [blankB] using hb
                omega
              have HN := Lib.hid (ws_blank_old HW.out hlt (by
                have : s[k1].toNat = 32 ∨ s[k1].toNat = 9 := by simpa [blankB] using hb
                unfold signB
                simp
                omega) hb)
              clear hb
              have hor2 : ((s[k1].toNat : Int) == 32) = true ∨ ((s[k1].toNat : Int) == 32) = false ∧ ((s[k1].toNat : Int) == 9) = true := by
                rcases hor with h | ⟨h, h2⟩
                · exact .inl (by simp [h])
                · exact .inr ⟨by simp [h], by simp [h2]⟩
              clear hor
              rcases hor2 with e1 | ⟨e1, e2⟩
              all_goals
                go_wp2
                go_roundg (s.size - (k1 + 1))
                case measure => omega
                case rel => exact ⟨k1 + 1, by omega, by omega, by omega, by go_num, rfl, HN.out⟩
            | false =>
              have e1 : ((s[k1].toNat : Int) == 32) = false := by
                have : ¬ s[k1].toNat = 32 := by intro h; simp [blankB, h] at hb
                simp; omega
              have e2 : ((s[k1].toNat : Int) == 9) = false := by
                have : ¬ s[k1].toNat = 9 := by intro h; simp [blankB, h] at hb
                simp; omega
              have e3 : ((k1 : Int) == (s.size : Int)) = false := by simp; omega
              have HBL := Lib.hid hb
              clear hb
              go_wp2
              clear e1 e2 e3
              go_loopg [4] s.size (fun g i wr2 => ∃ k2 : Nat, k1 ≤ k2 ∧ k2 ≤ s.size ∧ s.size - k2 ≤ g ∧ i = .int .i64 k2 ∧ wr2 = wr ∧ Aside (WS s k2 k1 O))
              case atStart => exact ⟨k1, Nat.le_refl _, hk1, by omega, rfl, rfl, HW.out⟩
              case round =>
                have HW1 := Lib.hid HW.out
                clear HW
                obtain ⟨k2, hkk2, hk2, hg2, rfl, rfl, HW⟩ := hrel
                by_cases hlt2 : k2 < s.size
                · have HC := Lib.hid (sign_any s[k2])
                  have H1 := Lib.hid (fun h => ws_sign HW.out hlt2 h)
                  have H2 := Lib.hid (fun (h : signB s[k2] = false) h3 => ws_cut HW.out hk2 (fun _ => h) h3)
                  cases hq : signB s[k2] with
                  | true =>
                    have HQ := Lib.hid hq
                    rw [hq] at HC
                    clear hq
                    go_wp2_with (go_at_call 79; refine (HC.out _).mono ?_; rintro e w1 ⟨rfl, rfl⟩)
                    go_roundg (s.size - (k2 + 1))
                    case measure => omega
                    case rel => exact ⟨k2 + 1, by omega, by omega, by omega, by go_num, rfl, H1.out HQ.out⟩
                  | false =>
                    have HQ := Lib.hid hq
                    rw [hq] at HC
                    clear hq
                    by_cases hne : k2 = k1
                    · subst hne
                      have HR := Lib.hid (HBAD.out (ws_bad HW.out hlt2 HQ.out HBL.out))
                      have e4 : ((k2 : Int) == (k2 : Int)) = true := by simp
                      go_wp2_with (go_at_call 79; refine (HC.out _).mono ?_; rintro e w1 ⟨rfl, rfl⟩)
                      rw [jumps_ret]
                      go_ret2
                      exact ⟨none, 0, by rw [HR.out]; rfl, by rw [HR.out]; exact Cel.nil _ _, HA.out.2, by rw [HR.out]; exact Nat.le_refl _⟩
                    · have H3 := Lib.hid (H2.out HQ.out (by omega))
                      have e4 : ((k2 : Int) == (k1 : Int)) = false := by simp; omega
                      go_wp2_with (first
                        | (go_at_call 79; refine (HC.out _).mono ?_; rintro e w1 ⟨rfl, rfl⟩)
                        | (at_builtin; go_must ((with_reducible refine wpList_app w.heap.size 9 _ 1 16 elem_string Tryz.underlying26 (.slice ao O.length cap) O.length _ ⟨wr.heap.size, 0, none⟩ 1 1 ?_ ?_ ?_ (World.ownsRow.alloc HA.out.1 _) ?_ ?_ ?_ ?_); rotate_left 1; (· rfl); (· rfl); (· exact cell_one_new _ _ _); (· exact one_cells rfl); (· exact ⟨rfl, by decide, by omega, by omega, by simp; omega⟩); intro g1 cap1 w1 hown hgrow hbl hat hlt1; (have H1o := Lib.hid hown; have H1b := Lib.hid hbl; have H1g := Lib.hid (And.intro hgrow hat); clear hown hgrow hbl hat))))
                      go_step3
                      repeat go_step
                      rw [jumps_goto]
                      refine ⟨s.size - k2 + 1, by omega, _, lit_of 58 _ rfl rfl, rfl, k2, cap1, some ⟨g1, 0, none⟩, O ++ [s.extract k1 k2], by rw [List.length_append]; rfl, rfl, by omega, by simp; omega, by have := H1b.out.size; simp at this; omega, ⟨?_, HA.out.2.trans ((Below.alloc (Below.refl _ _) hsz _).trans H1b.out)⟩, .inl ⟨rfl, H3.out, Nat.le_refl _⟩⟩
                      rw [List.length_append, List.map_append]
                      exact H1o.out
                · obtain rfl : k2 = s.size := by omega
                  have H3 := Lib.hid (ws_cut HW.out (Nat.le_refl _) (fun h => absurd h (by omega)) hlt)
                  have e4 : ((s.size : Int) == (k1 : Int)) = false := by simp; omega
                  go_wp2_with (first
                    | (go_at_call 79; refine (HC.out _).mono ?_; rintro e w1 ⟨rfl, rfl⟩)
                    | (at_builtin; go_must ((with_reducible refine wpList_app w.heap.size 9 _ 1 16 elem_string Tryz.underlying26 (.slice ao O.length cap) O.length _ ⟨wr.heap.size, 0, none⟩ 1 1 ?_ ?_ ?_ (World.ownsRow.alloc HA.out.1 _) ?_ ?_ ?_ ?_); rotate_left 1; (· rfl); (· rfl); (· exact cell_one_new _ _ _); (· exact one_cells rfl); (· exact ⟨rfl, by decide, by omega, by omega, by simp; omega⟩); intro g1 cap1 w1 hown hgrow hbl hat hlt1; (have H1o := Lib.hid hown; have H1b := Lib.hid hbl; have H1g := Lib.hid (And.intro hgrow hat); clear hown hgrow hbl hat))))
                  go_step3
                  repeat go_step
                  rw [jumps_goto]
                  refine ⟨s.size - s.size + 1, by omega, _, lit_of 58 _ rfl rfl, rfl, s.size, cap1, some ⟨g1, 0, none⟩, O ++ [s.extract k1 s.size], by rw [List.length_append]; rfl, rfl, by omega, by simp; omega, by have := H1b.out.size; simp at this; omega, ⟨?_, HA.out.2.trans ((Below.alloc (Below.refl _ _) hsz _).trans H1b.out)⟩, .inl ⟨rfl, H3.out, Nat.le_refl _⟩⟩
                  rw [List.length_append, List.map_append]
                  exact H1o.out
          · obtain rfl : k1 = s.size := by omega
            have HE := Lib.hid (ws_end_old HW.out)
            have e3 : ((s.size : Int) == (s.size : Int)) = true := by simp
            go_wp2
            go_step3
            repeat go_step
            rw [jumps_goto]
            exact ⟨0, by omega, _, lit_of 58 _ rfl rfl, rfl, s.size, cap, ao, O, rfl, rfl, Nat.le_refl _, by omega, hsz, HA.out, .inr ⟨rfl, HE.out⟩⟩
      · cases h
    · rintro n l a wr hl ⟨u, rfl, h0, k, cap, ao, O, h2, h4, hk, hO, hsz, HA, ⟨rfl, HW, hn⟩ | ⟨rfl, HW⟩⟩
      · exact absurd rfl hl
      · refine ⟨_, rfl, ?_⟩
        simp only [lit, List.range, List.range.loop, List.map_cons, List.map_nil, h0, h2, h4]
        clear h0 h2 h4
        by_cases hmany : 16384 < O.length
        · have HR := Lib.hid (HMANY.out O HW.out hmany)
          go_wp2
          rw [jumps_ret]
          go_ret2
          exact ⟨none, 0, by rw [HR.out]; rfl, by rw [HR.out]; exact Cel.nil _ _, HA.out.2, by rw [HR.out]; exact Nat.le_refl _⟩
        · have HR := Lib.hid (HOK.out O HW.out hmany)
          go_wp2
          rw [jumps_ret]
          go_ret2
          obtain ⟨ao', cap', e, h1⟩ := Cel.of_owns HA.out.1
          cases e
          exact ⟨ao, cap, by rw [HR.out]; rfl, by rw [HR.out]; exact h1, HA.out.2, by rw [HR.out]; exact owns_capW HA.out.1⟩

theorem Words_any (s : ByteArray) (w : World) (hs : s.size ≤ 140737488355328) :
    Calls Tryz.prog 69 #[.string s] w (WordsPost w (wordsF s)) :=
  (Words_own s w hs).mono fun _ _ ⟨ao, cap, h1, h2, h3, _⟩ => ⟨ao, cap, h1, h2, h3⟩

end Go.Proofs.YtelcmkccfjdmjaaGreatDoor
