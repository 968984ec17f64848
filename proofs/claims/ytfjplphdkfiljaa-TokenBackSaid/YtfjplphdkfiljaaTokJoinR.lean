/-
  Walks: the reference's line of some words.
-/
import Derived.Test.YtfjplphdkfiljaaProg
import Derived.Test.YtfjplphdkfiljaaTokJoin
namespace Go.Proofs.Ytfjplphdkfiljaa
open Go.Proofs Go.RowKit Go.Shelf

set_option maxHeartbeats 1000000 in
theorem refJoinT_any (l : List ByteArray) (ao : Option Addr) (cap : Nat) (w : World) (hl : l.length ≤ 140737488355328) (hx : ∀ x ∈ l, x.size ≤ 131072) (hc : Cel w ao (l.map encS)) :
    Calls Try.prog 49 #[.slice ao l.length cap] w fun e w' => e = .returned (.tuple #[.string (joinF l).1, .int .i64 (joinF l).2]) ∧ w' = w := by
  have HC := Lib.hid hc
  have HX := Lib.hid hx
  clear hc hx
  have HBAD := Lib.hid (joinF_bad (l := l))
  have HLONG := Lib.hid (joinF_long (l := l))
  have HMANY := Lib.hid (joinF_many (l := l))
  have HOK := Lib.hid (joinF_ok (l := l))
  have HSZ := Lib.hid (joinT_size l)
  have H0 := Lib.hid (joinT_zero l)
  have H1 := Lib.hid (joinT_one l)
  have HST := Lib.hid (joinT_step l)
  have HALL := Lib.hid (joinT_all l)
  have HAN := Lib.hid (fun (h : ∀ j (h : j < l.length), j < l.length → wordB l[j] = true) => (show ¬ (l.any fun x => !wordB x) = true by
    rw [List.any_eq_true]
    rintro ⟨x, hx, h2⟩
    obtain ⟨j, hj, rfl⟩ := List.getElem_of_mem hx
    rw [h j hj hj] at h2
    cases h2))
  have HAB := Lib.hid (fun k (hk : k < l.length) (h : wordB l[k] = false) => (List.any_eq_true.2 ⟨l[k], List.getElem_mem hk, by rw [h]; rfl⟩ : (l.any fun x => !wordB x) = true))
  generalize joinF l = r at *
  generalize Lib.join (tl l) [32] = jl at *
  generalize joinT l = T at *
  go_enter Try.func49, Try.ntmps49
  go_wp2
  go_loop [4] (fun i => ∃ k : Nat, k ≤ l.length ∧ i = .int .i64 k ∧ Aside (∀ j (h : j < l.length), j < k → wordB l[j] = true)) (fun i => l.length - (intOf i).toNat)
  case atStart => exact ⟨0, Nat.zero_le _, rfl, fun j _ h => absurd h (Nat.not_lt_zero _)⟩
  case round =>
    obtain ⟨k, hk, rfl, HA⟩ := hrel
    by_cases hlt : k < l.length
    · obtain ⟨b, o, hao, f1⟩ := HC.out.at hlt
      subst hao
      have HXS := HX.out l[k] (List.getElem_mem hlt)
      have HB := Lib.hid (HAB.out k hlt)
      have HT := Lib.hid (fun (hq : wordB l[k] = true) j (h : j < l.length) (h2 : j < k + 1) => (by
        by_cases e : j = k
        · subst e; exact hq
        · exact HA.out j h (by omega) : wordB l[j] = true))
      obtain ⟨x, hxe⟩ : ∃ x, l[k] = x := ⟨_, rfl⟩
      rw [hxe] at f1 HXS HB HT
      clear hxe
      have HQ := Lib.hid (fun W => refRight_any x W (by omega))
      cases hq : wordB x with
      | true =>
        have HT2 := Lib.hid (HT.out hq)
        rw [hq] at HQ
        clear hq HB HT
        go_wp2_with (go_at_call 18; refine (HQ.out _).mono ?_; rintro e w1 ⟨rfl, rfl⟩)
        go_round
        case rel => exact ⟨k + 1, by omega, by go_num, HT2.out⟩
        case measure => simp [intOf]; omega
      | false =>
        have HR := Lib.hid (HBAD.out (HB.out hq))
        rw [hq] at HQ
        clear hq HB HT
        go_wp2_with (go_at_call 18; refine (HQ.out _).mono ?_; rintro e w1 ⟨rfl, rfl⟩)
        go_ret2
        exact ⟨by rw [HR.out]; rfl, rfl⟩
    · obtain rfl : k = l.length := by omega
      have HNO := Lib.hid (HAN.out HA.out)
      clear HAB
      by_cases hm : 16384 < l.length
      · have HR := Lib.hid (HMANY.out HNO.out hm)
        go_wp2
        go_ret2
        exact ⟨by rw [HR.out]; rfl, rfl⟩
      · go_wp2
        go_loop [5, 6] (fun s i => ∃ k : Nat, k ≤ l.length ∧ i = .int .i64 k ∧ s = .string (T k) ∧ (T k).size ≤ 65536) (fun s i => l.length - (intOf i).toNat)
        case atStart => exact ⟨0, Nat.zero_le _, rfl, by rw [H0.out]; rfl, by rw [H0.out]; decide⟩
        case round =>
          obtain ⟨k, hk, rfl, rfl, hT⟩ := hrel
          by_cases hlt : k < l.length
          · obtain ⟨b, o, hao, f1⟩ := HC.out.at hlt
            subst hao
            have HXS := HX.out l[k] (List.getElem_mem hlt)
            have hle := HSZ.out (k + 1)
            have HS1 := Lib.hid (fun h => H1.out h)
            have HS2 := Lib.hid (HST.out k hlt)
            obtain ⟨x, hxe⟩ : ∃ x, l[k] = x := ⟨_, rfl⟩
            rw [hxe] at f1 HXS HS2
            by_cases h0 : k = 0
            · subst h0
              have e1 := H1.out hlt
              rw [hxe] at e1
              have e2 : T 1 = x := by rw [e1]; simp
              simp only [Nat.add_zero] at f1
              rw [H0.out] at hT ⊢
              rw [show T (0 + 1) = T 1 from rfl, e2] at hle
              clear hxe HS1 HS2 e1
              by_cases hbig : 65536 < x.size
              · have HR := Lib.hid (HLONG.out HNO.out (by omega))
                go_wp2
                go_ret2
                exact ⟨by rw [HR.out]; rfl, rfl⟩
              · go_wp2
                go_round
                case rel => exact ⟨1, by omega, by go_num, by rw [e2], by rw [e2]; omega⟩
                case measure => simp [intOf]; omega
            · have E2 := Lib.hid (HS2.out (by omega))
              have e3 : (T (k + 1)).size = (T k).size + 1 + x.size := by rw [E2.out, ByteArray.size_append, ByteArray.size_append]; rfl
              rw [e3] at hle
              clear hxe HS1 HS2
              by_cases hbig : 65536 < (T k).size + 1 + x.size
              · have HR := Lib.hid (HLONG.out HNO.out (by omega))
                go_wp2
                go_ret2
                exact ⟨by rw [HR.out]; rfl, rfl⟩
              · go_wp2
                go_round
                case rel => exact ⟨k + 1, by omega, by go_num, by rw [E2.out], by rw [e3]; omega⟩
                case measure => simp [intOf]; omega
          · obtain rfl : k = l.length := by omega
            rw [HALL.out] at hT ⊢
            have HR := Lib.hid (HOK.out HNO.out hm (by rw [Lib.size_eq] at hT; simpa using hT))
            go_wp2
            go_ret2
            exact ⟨by rw [HR.out]; rfl, rfl⟩

end Go.Proofs.Ytfjplphdkfiljaa
