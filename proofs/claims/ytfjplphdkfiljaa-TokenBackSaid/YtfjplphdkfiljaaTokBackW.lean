/-
  The walk of the statement TokenBack: whatever the words and the text, the law answers true.
-/
import Derived.Test.YtfjplphdkfiljaaProg
import Derived.Test.YtfjplphdkfiljaaTokLinesW
namespace Go.Proofs.Ytfjplphdkfiljaa
open Go.Proofs Go.RowKit Go.Shelf

theorem joinF_size (l : List ByteArray) : (joinF l).1.size ≤ 65536 := by
  unfold joinF
  split
  · decide
  · split
    · decide
    · split
      · decide
      · rename_i h
        rw [Lib.size_eq]
        simpa using h

/-- the first k lines, each with its end -/
def catT (O : List ByteArray) (k : Nat) : ByteArray := ⟨(catN (O.take k)).toArray⟩
theorem catT_zero (O : List ByteArray) : catT O 0 = ByteArray.empty := rfl
theorem catT_step (O : List ByteArray) (k : Nat) (h : k < O.length) : catT O (k + 1) = (catT O k ++ O[k]) ++ ⟨#[10]⟩ := by
  unfold catT
  rw [List.take_succ_eq_append_getElem h, catN_append]
  conv => rhs; lhs; rhs; rw [← Lib.mk_data O[k]]
  rw [show (⟨#[10]⟩ : ByteArray) = ⟨[10].toArray⟩ from rfl, ba_app, ba_app, List.append_assoc]
theorem catN_take_le (O : List ByteArray) (k : Nat) : (catN (O.take k)).length ≤ (catN O).length := by
  have key : ∀ A B : List ByteArray, catN (A ++ B) = catN A ++ catN B := fun A B => by simp [catN]
  have h := key (O.take k) (O.drop k)
  rw [List.take_append_drop] at h
  rw [h, List.length_append]
  omega
theorem catT_size (s : ByteArray) (k : Nat) : (catT (linesF s).1 k).size + (linesF s).2.size ≤ s.size := by
  have h1 := linesGo_len s.size s
  have h2 := catN_take_le (linesF s).1 k
  have h3 : (catT (linesF s).1 k).size = (catN ((linesF s).1.take k)).length := by
    unfold catT
    rw [Lib.size_eq]
  have h4 : (catN (linesF s).1).length + (linesF s).2.size ≤ s.size := h1
  omega
theorem catT_back (s : ByteArray) (h : ∀ j (hj : j < s.size), j < s.size → s[j] ≠ 13) : catT (linesF s).1 (linesF s).1.length ++ (linesF s).2 = s := by
  have h1 := linesGo_back s.size s (fun c hc => by
    obtain ⟨j, hj, rfl⟩ := List.getElem_of_mem hc
    have hj2 : j < s.size := by rw [Lib.size_eq]; exact hj
    exact h j hj2 hj2)
  have h2 : catN (linesF s).1 ++ (linesF s).2.data.toList = s.data.toList := h1
  unfold catT
  rw [List.take_of_length_le (Nat.le_refl _)]
  conv => lhs; rhs; rw [← Lib.mk_data (linesF s).2]
  rw [ba_app, h2, Lib.mk_data]
theorem line_le (s : ByteArray) (k : Nat) (h : k < (linesF s).1.length) : (linesF s).1[k].size ≤ s.size := by
  have h1 := catT_size s (k + 1)
  rw [catT_step _ _ h, ByteArray.size_append, ByteArray.size_append] at h1
  omega
theorem lines_le (s : ByteArray) : (linesF s).1.length ≤ s.size := by
  have h1 := linesGo_len s.size s
  have h2 : (catN (linesF s).1).length + (linesF s).2.size ≤ s.size := h1
  have h3 : ∀ O : List ByteArray, O.length ≤ (catN O).length := by
    intro O
    induction O with
    | nil => simp
    | cons x O ih =>
      simp only [catN, List.map_cons, List.flatten_cons, List.length_append, List.length_cons] at ih ⊢
      omega
  have := h3 (linesF s).1
  omega

set_option maxHeartbeats 4000000 in
theorem TokenBack_any (s : ByteArray) (l : List ByteArray) (ao : Option Addr) (cap : Nat) (w : World) (hcap : l.length ≤ cap) (hc : Cel w ao (l.map encS)) :
    Calls Try.prog 10 #[.slice ao l.length cap, .string s] w fun e w' => e = .returned (.bool true) ∧ Below w.heap.size w w' := by
  have HC := Lib.hid hc
  clear hc
  by_cases h1 : 2000 < s.size
  · go_enter Try.func10, Try.ntmps10
    go_wp2_with (go_at_call 11; refine (alive03_any _).mono ?_; rintro e w1 ⟨rfl, hb1⟩)
    go_ret
    exact ⟨rfl, hb1⟩
  by_cases h2 : 60 < l.length
  · go_enter Try.func10, Try.ntmps10
    go_wp2_with (go_at_call 11; refine (alive03_any _).mono ?_; rintro e w1 ⟨rfl, hb1⟩)
    go_ret
    exact ⟨rfl, hb1⟩
  have HL := Lib.hid (fun W => Lines_any s W (by omega))
  have HSZ := Lib.hid (catT_size s)
  have HBK := Lib.hid (catT_back s)
  have HLN := Lib.hid (lines_le s)
  have HLE := Lib.hid (line_le s)
  have HST := Lib.hid (catT_step (linesF s).1)
  have H0 := Lib.hid (catT_zero (linesF s).1)
  have HJ := Lib.hid (fun W h3 h4 => Join_any l ao cap W (by omega) h3 hcap h4)
  have hjz := joinF_size l
  have HJW := Lib.hid (fun (h : (joinF l).2 = 0) => wordsF_join (l := l) (s := (joinF l).1) (by rw [← h]))
  generalize joinF l = q at *
  generalize linesF s = r at *
  generalize catT r.1 = T at *
  obtain ⟨q1, q2⟩ := q
  simp only at HJ HJW hjz
  go_enter Try.func10, Try.ntmps10
  go_wp2
  go_loop [5] (fun i => ∃ k : Nat, k ≤ l.length ∧ i = .int .i64 k ∧ Aside (∀ j (h : j < l.length), j < k → l[j].size ≤ 100)) (fun i => l.length - (intOf i).toNat)
  case atStart => exact ⟨0, Nat.zero_le _, rfl, fun j _ h => absurd h (Nat.not_lt_zero _)⟩
  case round =>
    obtain ⟨k, hk, rfl, HA⟩ := hrel
    by_cases hlt : k < l.length
    · obtain ⟨b, o, hao, f1⟩ := HC.out.at hlt
      subst hao
      by_cases hb : l[k].size ≤ 100
      · have HT := Lib.hid (fun j (h : j < l.length) (h2 : j < k + 1) => (by
          by_cases e : j = k
          · subst e; exact hb
          · exact HA.out j h (by omega) : l[j].size ≤ 100))
        obtain ⟨x, hxe⟩ : ∃ x, l[k] = x := ⟨_, rfl⟩
        rw [hxe] at f1 hb
        clear hxe HJ
        go_wp2
        go_round
        case rel => exact ⟨k + 1, by omega, by go_num, HT.out⟩
        case measure => simp [intOf]; omega
      · obtain ⟨x, hxe⟩ : ∃ x, l[k] = x := ⟨_, rfl⟩
        rw [hxe] at f1 hb
        clear hxe HJ
        go_wp2_with (go_at_call 11; refine (alive03_any _).mono ?_; rintro e w1 ⟨rfl, hb1⟩)
        go_ret
        exact ⟨rfl, hb1⟩
    · obtain rfl : k = l.length := by omega
      have HX := Lib.hid (bytes_le HA.out)
      clear HA
      by_cases hq : q2 = 0
      · subst hq
        have HW := Lib.hid (fun W => Words_any q1 W (by omega))
        rw [HJW.out rfl] at HW
        clear HJW
        go_wp2_with (first
          | (go_at_call 34; refine (HJ.out _ (fun x hx => by have := HX.out x hx; omega) HC.out).mono ?_; rintro e w1 ⟨rfl, hb1⟩; (have HB1 := Lib.hid hb1; clear hb1))
          | (go_at_call 12; refine (HW.out _).mono ?_; rintro e w2 ⟨a2, p2, rfl, hc2, hb2⟩; (have HC2 := Lib.hid hc2; have HB2 := Lib.hid (HB1.out.st hb2); clear hc2 hb2))
          | (go_at_call 14; go_must (refine (sameWords_any _ _ _ _ l l _ (by omega) (by omega) HC2.out (HC.out.go HB2.out)).mono ?_); rintro e w3 ⟨rfl, n3, rfl⟩)
          | (go_at_call 45; refine (HL.out _).mono ?_; rintro e w4 ⟨a4, p4, rfl, hc4, hb4, -, -⟩; (have HC4 := Lib.hid hc4; have HB4 := Lib.hid ((HB2.out.dr n3).st hb4); clear hc4 hb4)))
        have hln := HLN.out
        go_loop [10, 13] (fun t i => ∃ k : Nat, k ≤ r.1.length ∧ i = .int .i64 k ∧ t = .string (T k)) (fun t i => r.1.length - (intOf i).toNat)
        case atStart => exact ⟨0, Nat.zero_le _, rfl, by rw [H0.out]; rfl⟩
        case round =>
          obtain ⟨k2, hk2, rfl, rfl⟩ := hrel
          have hz := HSZ.out k2
          by_cases hlt2 : k2 < r.1.length
          · obtain ⟨b, o, hao, f1⟩ := HC4.out.at hlt2
            have E2 := Lib.hid (HST.out k2 hlt2)
            have hle := HLE.out k2 hlt2
            obtain ⟨x, hxe⟩ : ∃ x, r.1[k2] = x := ⟨_, rfl⟩
            rw [hxe] at f1 E2 hle
            subst hao
            clear hxe
            go_wp2
            go_round
            case rel => exact ⟨k2 + 1, by omega, by go_num, by rw [E2.out]⟩
            case measure => simp [intOf]; omega
          · obtain rfl : k2 = r.1.length := by omega
            go_wp2
            go_loop [14] (fun i => ∃ k : Nat, k ≤ s.size ∧ i = .int .i64 k ∧ Aside (∀ j (hj : j < s.size), j < k → s[j] ≠ 13)) (fun i => s.size - (intOf i).toNat)
            case atStart => exact ⟨0, Nat.zero_le _, rfl, fun j _ h => absurd h (Nat.not_lt_zero _)⟩
            case round =>
              obtain ⟨k3, hk3, rfl, HA3⟩ := hrel
              by_cases hlt3 : k3 < s.size
              · by_cases hc13 : s[k3] = 13
                · have hcn : (s[k3].toNat : Int) = 13 := by rw [hc13]; rfl
                  clear hc13
                  go_wp2_with (go_at_call 11; refine (alive03_any _).mono ?_; rintro e w8 ⟨rfl, hb8⟩)
                  go_ret
                  exact ⟨rfl, HB4.out.st hb8⟩
                · have HT3 := Lib.hid (fun j (hj : j < s.size) (h : j < k3 + 1) => (by
                    by_cases e : j = k3
                    · subst e; exact hc13
                    · exact HA3.out j hj (by omega) : s[j] ≠ 13))
                  have hcn : ¬ (s[k3].toNat : Int) = 13 := fun e => hc13 (u8_13 e)
                  clear hc13
                  go_wp2
                  go_round
                  case rel => exact ⟨k3 + 1, by omega, by go_num, HT3.out⟩
                  case measure => simp [intOf]; omega
              · obtain rfl : k3 = s.size := by omega
                have hE := HBK.out HA3.out
                generalize T r.1.length = TT at *
                generalize r.2 = TR at *
                clear HL HSZ HBK HLE HA3 HLN
                subst hE
                go_wp2_with (go_at_call 11; refine (alive03_any _).mono ?_; rintro e w8 ⟨rfl, hb8⟩)
                go_ret
                exact ⟨rfl, HB4.out.st hb8⟩
      · clear HJW
        go_wp2_with (first
          | (go_at_call 34; refine (HJ.out _ (fun x hx => by have := HX.out x hx; omega) HC.out).mono ?_; rintro e w1 ⟨rfl, hb1⟩; (have HB1 := Lib.hid hb1; clear hb1))
          | (go_at_call 45; refine (HL.out _).mono ?_; rintro e w4 ⟨a4, p4, rfl, hc4, hb4, -, -⟩; (have HC4 := Lib.hid hc4; have HB4 := Lib.hid (HB1.out.st hb4); clear hc4 hb4)))
        have hln := HLN.out
        go_loop [10, 13] (fun t i => ∃ k : Nat, k ≤ r.1.length ∧ i = .int .i64 k ∧ t = .string (T k)) (fun t i => r.1.length - (intOf i).toNat)
        case atStart => exact ⟨0, Nat.zero_le _, rfl, by rw [H0.out]; rfl⟩
        case round =>
          obtain ⟨k2, hk2, rfl, rfl⟩ := hrel
          have hz := HSZ.out k2
          by_cases hlt2 : k2 < r.1.length
          · obtain ⟨b, o, hao, f1⟩ := HC4.out.at hlt2
            have E2 := Lib.hid (HST.out k2 hlt2)
            have hle := HLE.out k2 hlt2
            obtain ⟨x, hxe⟩ : ∃ x, r.1[k2] = x := ⟨_, rfl⟩
            rw [hxe] at f1 E2 hle
            subst hao
            clear hxe
            go_wp2
            go_round
            case rel => exact ⟨k2 + 1, by omega, by go_num, by rw [E2.out]⟩
            case measure => simp [intOf]; omega
          · obtain rfl : k2 = r.1.length := by omega
            go_wp2
            go_loop [14] (fun i => ∃ k : Nat, k ≤ s.size ∧ i = .int .i64 k ∧ Aside (∀ j (hj : j < s.size), j < k → s[j] ≠ 13)) (fun i => s.size - (intOf i).toNat)
            case atStart => exact ⟨0, Nat.zero_le _, rfl, fun j _ h => absurd h (Nat.not_lt_zero _)⟩
            case round =>
              obtain ⟨k3, hk3, rfl, HA3⟩ := hrel
              by_cases hlt3 : k3 < s.size
              · by_cases hc13 : s[k3] = 13
                · have hcn : (s[k3].toNat : Int) = 13 := by rw [hc13]; rfl
                  clear hc13
                  go_wp2_with (go_at_call 11; refine (alive03_any _).mono ?_; rintro e w8 ⟨rfl, hb8⟩)
                  go_ret
                  exact ⟨rfl, HB4.out.st hb8⟩
                · have HT3 := Lib.hid (fun j (hj : j < s.size) (h : j < k3 + 1) => (by
                    by_cases e : j = k3
                    · subst e; exact hc13
                    · exact HA3.out j hj (by omega) : s[j] ≠ 13))
                  have hcn : ¬ (s[k3].toNat : Int) = 13 := fun e => hc13 (u8_13 e)
                  clear hc13
                  go_wp2
                  go_round
                  case rel => exact ⟨k3 + 1, by omega, by go_num, HT3.out⟩
                  case measure => simp [intOf]; omega
              · obtain rfl : k3 = s.size := by omega
                have hE := HBK.out HA3.out
                generalize T r.1.length = TT at *
                generalize r.2 = TR at *
                clear HL HSZ HBK HLE HA3 HLN
                subst hE
                go_wp2_with (go_at_call 11; refine (alive03_any _).mono ?_; rintro e w8 ⟨rfl, hb8⟩)
                go_ret
                exact ⟨rfl, HB4.out.st hb8⟩

end Go.Proofs.Ytfjplphdkfiljaa
