/-
  Walks: the reference's Less and Cmp.
-/
import Derived.Test.YtelcmkccfjdmjaaGreatDoorProg
import Derived.Test.YtelcmkccfjdmjaaGreatDoorCmp
namespace Go.Proofs.YtelcmkccfjdmjaaGreatDoor
open Go.Proofs Go.RowKit Go.Shelf

set_option maxRecDepth 100000 in
set_option maxHeartbeats 1000000 in
theorem refLess_any (ao bo : Option Addr) (ca cb : Nat) (la lb : List Int) (w : World) (hla : la.length ≤ 1048576) (hlb : lb.length ≤ 1048576)
    (ha : Cel w ao (la.map encI)) (hb : Cel w bo (lb.map encI)) :
    Calls Tryz.prog 131 #[.slice ao la.length ca, .slice bo lb.length cb] w fun e w' => e = .returned (.int .i64 (lexI la lb)) ∧ Below w.heap.size w w' := by
  have HA := Lib.hid ha
  have HB := Lib.hid hb
  have H0 := Lib.hid (show lexI (la.drop 0) (lb.drop 0) = lexI la lb from rfl)
  clear ha hb
  generalize lexI la lb = r at *
  go_enter Tryz.func131, Tryz.ntmps131
  go_wp2
  go_loopg [5] la.length (fun g i wr => ∃ k q : Nat, k ≤ la.length ∧ k ≤ lb.length ∧ la.length - k ≤ g ∧ i = .int .i64 k ∧ wr = w.drewN q ∧ Aside (lexI (la.drop k) (lb.drop k) = r))
  case atStart => exact ⟨0, 0, by omega, by omega, by omega, rfl, rfl, H0.out⟩
  case round =>
    clear H0
    obtain ⟨k, q, hk, hkb, hg, rfl, rfl, HR⟩ := hrel
    have k0 : (0 : Int) ≤ (k : Int) := by omega
    by_cases hlt : k < la.length
    · have d1 : decide ((k : Int) < (la.length : Int)) = true := by simp; omega
      have i1 : (k : Int) < (la.length : Int) := by omega
      by_cases hlb2 : k < lb.length
      · obtain ⟨b1, o1, hao, hc1⟩ := HA.out.at hlt
        obtain ⟨b2, o2, hbo, hc2⟩ := HB.out.at hlb2
        subst hao hbo
        have i2 : (k : Int) < (lb.length : Int) := by omega
        have HS := Lib.hid (lex_step hlt hlb2)
        rw [HR.out] at HS
        generalize la[k] = x at *
        generalize lb[k] = y at *
        by_cases h1 : x < y
        · have HQ := Lib.hid (by have := HS.out; rw [cmpI_lt h1] at this; simpa using this : r = -1)
          have t1 : decide (x < y) = true := by simpa using h1
          clear HS HR
          go_wp2
          go_quiet (fail)
          go_wp2
          go_ret
          exact ⟨by rw [HQ.out]; rfl, by repeat (first | exact Below.refl _ _ | refine Below.al ?_ _ | refine Below.dr ?_ _ | refine Below.drew ?_ | assumption | (refine Below.st ?_ (by assumption)))⟩
        · have t1 : decide (x < y) = false := by simpa using h1
          by_cases h2 : y < x
          · have HQ := Lib.hid (by have := HS.out; rw [cmpI_gt h2] at this; simpa using this : r = 1)
            have t2 : decide (y < x) = true := by simpa using h2
            clear HS HR
            go_wp2
            go_quiet (fail)
            go_wp2
            go_quiet (fail)
            go_wp2
            go_ret
            exact ⟨by rw [HQ.out]; rfl, by repeat (first | exact Below.refl _ _ | refine Below.al ?_ _ | refine Below.dr ?_ _ | refine Below.drew ?_ | assumption | (refine Below.st ?_ (by assumption)))⟩
          · have t2 : decide (y < x) = false := by simpa using h2
            have HQ := Lib.hid (by have := HS.out; rw [cmpI_eq (by omega)] at this; simpa using this : r = lexI (la.drop (k + 1)) (lb.drop (k + 1)))
            clear HS HR
            go_wp2
            go_quiet (fail)
            go_wp2
            go_quiet (fail)
            go_wp2
            go_roundg (la.length - (k + 1))
            case measure => omega
            case rel => exact ⟨k + 1, _, by omega, by omega, by omega, by go_num, rfl, HQ.out.symm⟩
      · have HQ := Lib.hid (lex_long (la := la) (lb := lb) hlt (by omega))
        rw [HR.out] at HQ
        have d2 : decide ((k : Int) < (lb.length : Int)) = false := by simp; omega
        have i2 : ¬ (k : Int) < (lb.length : Int) := by omega
        have i3 : ¬ (la.length : Int) < (lb.length : Int) := by omega
        have i4 : (lb.length : Int) < (la.length : Int) := by omega
        go_wp2
        go_ret
        exact ⟨by rw [HQ.out]; rfl, by repeat (first | exact Below.refl _ _ | refine Below.al ?_ _ | refine Below.dr ?_ _ | refine Below.drew ?_ | assumption | (refine Below.st ?_ (by assumption)))⟩
    · obtain rfl : k = la.length := by omega
      have HQ := Lib.hid (lex_end (la := la) (lb := lb) (Nat.le_refl _) hkb rfl)
      rw [HR.out] at HQ
      have d1 : decide ((la.length : Int) < (la.length : Int)) = false := by simp
      have i4 : ¬ (lb.length : Int) < (la.length : Int) := by omega
      by_cases h : la.length < lb.length
      · have HQ2 := Lib.hid (by have := HQ.out; rw [if_pos h] at this; exact this : r = -1)
        have i3 : (la.length : Int) < (lb.length : Int) := by omega
        go_wp2
        go_ret
        exact ⟨by rw [HQ2.out]; rfl, by repeat (first | exact Below.refl _ _ | refine Below.al ?_ _ | refine Below.dr ?_ _ | refine Below.drew ?_ | assumption | (refine Below.st ?_ (by assumption)))⟩
      · have HQ2 := Lib.hid (by have := HQ.out; rw [if_neg h] at this; exact this : r = 0)
        have i3 : ¬ (la.length : Int) < (lb.length : Int) := by omega
        go_wp2
        go_ret
        exact ⟨by rw [HQ2.out]; rfl, by repeat (first | exact Below.refl _ _ | refine Below.al ?_ _ | refine Below.dr ?_ _ | refine Below.drew ?_ | assumption | (refine Below.st ?_ (by assumption)))⟩

set_option maxRecDepth 100000 in
set_option maxHeartbeats 1000000 in
theorem refCmp_any (ao bo : Option Addr) (ca cb : Nat) (la lb : List Int) (wa wb : Int) (w : World) (hla : la.length ≤ 1048576) (hlb : lb.length ≤ 1048576)
    (ha : Cel w ao (la.map encI)) (hb : Cel w bo (lb.map encI)) :
    Calls Tryz.prog 86 #[.agg #[.slice ao la.length ca, .int .u64 wa], .agg #[.slice bo lb.length cb, .int .u64 wb]] w fun e w' => e = .returned (.int .i64 (cmpR wa la wb lb)) ∧ Below w.heap.size w w' := by
  have HA := Lib.hid ha
  have HB := Lib.hid hb
  clear ha hb
  have HC := Lib.hid (fun W h1 h2 => refLess_any ao bo ca cb la lb W hla hlb h1 h2)
  by_cases h1 : wa < wb
  · have HR := Lib.hid (by unfold cmpR; rw [cmpI_lt h1]; simp : cmpR wa la wb lb = -1)
    generalize cmpR wa la wb lb = r at *
    go_enter Tryz.func86, Tryz.ntmps86
    go_wp2
    go_ret
    exact ⟨by rw [HR.out]; rfl, by repeat (first | exact Below.refl _ _ | refine Below.al ?_ _ | refine Below.dr ?_ _ | refine Below.drew ?_ | assumption | (refine Below.st ?_ (by assumption)))⟩
  · by_cases h2 : wb < wa
    · have HR := Lib.hid (by unfold cmpR; rw [cmpI_gt h2]; simp : cmpR wa la wb lb = 1)
      generalize cmpR wa la wb lb = r at *
      go_enter Tryz.func86, Tryz.ntmps86
      go_wp2
      go_ret
      exact ⟨by rw [HR.out]; rfl, by repeat (first | exact Below.refl _ _ | refine Below.al ?_ _ | refine Below.dr ?_ _ | refine Below.drew ?_ | assumption | (refine Below.st ?_ (by assumption)))⟩
    · have HR := Lib.hid (by unfold cmpR; rw [cmpI_eq (by omega)]; simp : cmpR wa la wb lb = lexI la lb)
      generalize cmpR wa la wb lb = r at *
      generalize lexI la lb = r2 at *
      go_enter Tryz.func86, Tryz.ntmps86
      go_wp2_with (go_at_call 131; refine (HC.out _ (HA.out.go (by repeat (first | exact Below.refl _ _ | refine Below.al ?_ _ | refine Below.dr ?_ _ | refine Below.drew ?_ | assumption | (refine Below.st ?_ (by assumption))))) (HB.out.go (by repeat (first | exact Below.refl _ _ | refine Below.al ?_ _ | refine Below.dr ?_ _ | refine Below.drew ?_ | assumption | (refine Below.st ?_ (by assumption)))))).mono ?_; rintro e w1 ⟨rfl, hb1⟩)
      go_ret
      exact ⟨by rw [HR.out]; rfl, by repeat (first | exact Below.refl _ _ | refine Below.al ?_ _ | refine Below.dr ?_ _ | refine Below.drew ?_ | assumption | (refine Below.st ?_ (by assumption)))⟩
theorem lexI_self : ∀ l : List Int, lexI l l = 0
  | [] => rfl
  | x :: l => by
    have := lexI_self l
    simp [lexI, cmpI, this]
theorem cmpR_self (a : Int) (l : List Int) : cmpR a l a l = 0 := by
  unfold cmpR
  rw [lexI_self, cmpI_eq rfl]
  rfl

end Go.Proofs.YtelcmkccfjdmjaaGreatDoor
