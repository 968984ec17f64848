/-
  Rational numbers as pairs, as plain functions; no program in sight.
-/
import Derived.Test.YtelcmkccfjdmjaaGreatDoorNumSpec
namespace Go.Proofs.YtelcmkccfjdmjaaGreatDoor
open Go.Proofs Go.RowKit Go.Shelf

def rightR (n d : Int) : Bool := decide (n ≤ 1048576) && (decide (1 ≤ d) && decide (d ≤ 1048576))
theorem rightR_of {n d : Int} (h : rightR n d = true) : n ≤ 1048576 ∧ 1 ≤ d ∧ d ≤ 1048576 := by
  unfold rightR at h; simpa using h

def cmpX (x y : Int) : Int := if x = y then 0 else if x ≤ y then -1 else 1
def cmpR (an ad bn bd : Int) : Int := if rightR an ad && rightR bn bd then cmpX (an * bd) (bn * ad) else 0

def gI (a b : Int) : Int := (Nat.gcd a.toNat b.toNat : Int)
theorem gI_step {a b : Int} (ha : 0 ≤ a) (hb : 0 < b) : gI b (a % b) = gI a b := by
  unfold gI
  have e : (a % b).toNat = a.toNat % b.toNat := by
    rw [Int.toNat_emod ha (by omega)]
  rw [e, Nat.gcd_comm a.toNat b.toNat, Nat.gcd_rec b.toNat a.toNat, Nat.gcd_comm]
theorem gI_zero {a : Int} (ha : 0 ≤ a) : gI a 0 = a := by unfold gI; simp; omega
theorem gI_pos {a b : Int} (hb : 1 ≤ b) : 1 ≤ gI a b := by
  unfold gI
  have : 0 < Nat.gcd a.toNat b.toNat := Nat.gcd_pos_of_pos_right _ (by omega)
  omega
theorem gI_left {a b : Int} (ha : 0 ≤ a) : gI a b * (a / gI a b) = a := by
  unfold gI
  have h : (Nat.gcd a.toNat b.toNat : Int) ∣ a := by
    have := Nat.gcd_dvd_left a.toNat b.toNat
    have h2 := Int.natCast_dvd_natCast.2 this
    rwa [Int.toNat_of_nonneg ha] at h2
  exact Int.mul_ediv_cancel' h
theorem gI_right {a b : Int} (hb : 0 ≤ b) : gI a b * (b / gI a b) = b := by
  unfold gI
  have h : (Nat.gcd a.toNat b.toNat : Int) ∣ b := by
    have := Nat.gcd_dvd_right a.toNat b.toNat
    have h2 := Int.natCast_dvd_natCast.2 this
    rwa [Int.toNat_of_nonneg hb] at h2
  exact Int.mul_ediv_cancel' h

def redN (n d : Int) : Int := if rightR n d then n / gI n d else 0
def redD (n d : Int) : Int := if rightR n d then d / gI n d else 0

def withinR (w n d base : Int) : Bool := rightR n d && decide (w * d ≤ base * n)
def stretchedR (w n d base : Int) : Bool := rightR n d && decide (w * d ≤ base * (n + d))
/-- divided, and rounded up -/
def upQ (w n d : Int) : Int := (w * n + d - 1) / d
def upR (w n d most : Int) : Int := if rightR n d then (if 18446744073709551616 ≤ upQ w n d then most else min (upQ w n d) most) else 0

/- the plain laws -/
theorem red_fact {n d : Int} (h0 : 0 ≤ n) (h : rightR n d = true) : ∃ g, 1 ≤ g ∧ n = g * redN n d ∧ d = g * redD n d ∧ 0 ≤ redN n d ∧ 1 ≤ redD n d ∧ rightR (redN n d) (redD n d) = true := by
  obtain ⟨h1, h2, h3⟩ := rightR_of h
  unfold redN redD
  rw [if_pos h, if_pos h]
  have hg := gI_pos (a := n) h2
  have e1 := gI_left (b := d) h0
  have e2 := gI_right (a := n) (b := d) (by omega)
  have n0 : 0 ≤ n / gI n d := Int.ediv_nonneg h0 (by omega)
  have n1 : n / gI n d ≤ n := Int.ediv_le_self _ h0
  have d1 : d / gI n d ≤ d := Int.ediv_le_self _ (by omega)
  have d0 : 1 ≤ d / gI n d := by
    have hd0 : 0 ≤ d / gI n d := Int.ediv_nonneg (by omega) (by omega)
    rcases Int.lt_or_le (d / gI n d) 1 with hlt | hge
    · have hz : d / gI n d = 0 := by omega
      rw [hz] at e2
      omega
    · exact hge
  refine ⟨gI n d, hg, e1.symm, e2.symm, n0, d0, ?_⟩
  unfold rightR
  simp
  omega

theorem cmp_red {n d : Int} (h0 : 0 ≤ n) (h : rightR n d = true) : cmpR n d (redN n d) (redD n d) = 0 := by
  obtain ⟨g, hg, e1, e2, _, _, hr⟩ := red_fact h0 h
  unfold cmpR cmpX
  rw [h, hr, Bool.true_and, if_pos rfl, if_pos]
  generalize redN n d = x at *
  generalize redD n d = y at *
  rw [e1, e2, Int.mul_comm g x, Int.mul_assoc]

theorem le_scale {g a b : Int} (hg : 1 ≤ g) : g * a ≤ g * b ↔ a ≤ b :=
  ⟨fun h => Int.le_of_mul_le_mul_left h (by omega), fun h => Int.mul_le_mul_of_nonneg_left h (by omega)⟩

theorem within_red {w n d base : Int} (h0 : 0 ≤ n) (h : rightR n d = true) : withinR w (redN n d) (redD n d) base = withinR w n d base := by
  obtain ⟨g, hg, e1, e2, _, _, hr⟩ := red_fact h0 h
  unfold withinR
  rw [h, hr, Bool.true_and, Bool.true_and]
  congr 1
  apply propext
  have k1 : w * d = g * (w * redD n d) := by conv => lhs; rw [e2]
                                             rw [← Int.mul_assoc, Int.mul_comm w g, Int.mul_assoc]
  have k2 : base * n = g * (base * redN n d) := by conv => lhs; rw [e1]
                                                   rw [← Int.mul_assoc, Int.mul_comm base g, Int.mul_assoc]
  rw [k1, k2, le_scale hg]

theorem cmp_turn (an ad bn bd : Int) : cmpR an ad bn bd = - cmpR bn bd an ad := by
  unfold cmpR
  rw [Bool.and_comm]
  split
  · unfold cmpX
    split <;> split <;> (try split) <;> (try split) <;> omega
  · rfl

theorem within_more {w an ad bn bd base : Int} (hb : 0 ≤ base) (ha : rightR an ad = true) (hbr : rightR bn bd = true) (hc : cmpR an ad bn bd ≤ 0) (hw : withinR w an ad base = true) : withinR w bn bd base = true := by
  obtain ⟨_, a1, _⟩ := rightR_of ha
  obtain ⟨_, b1, _⟩ := rightR_of hbr
  unfold cmpR cmpX at hc
  rw [ha, hbr, Bool.true_and, if_pos rfl] at hc
  have h1 : an * bd ≤ bn * ad := by
    split at hc
    · omega
    · split at hc <;> omega
  unfold withinR at hw ⊢
  rw [ha, Bool.true_and, decide_eq_true_eq] at hw
  rw [hbr, Bool.true_and, decide_eq_true_eq]
  have h2 : base * (an * bd) ≤ base * (bn * ad) := Int.mul_le_mul_of_nonneg_left h1 hb
  have h3 : bd * (w * ad) ≤ bd * (base * an) := Int.mul_le_mul_of_nonneg_left hw (by omega)
  refine Int.le_of_mul_le_mul_left (a := ad) ?_ (by omega)
  have e1 : ad * (w * bd) = bd * (w * ad) := by rw [Int.mul_left_comm, Int.mul_comm ad bd, Int.mul_left_comm]
  have e2 : ad * (base * bn) = base * (bn * ad) := by rw [Int.mul_left_comm, Int.mul_comm ad bn]
  have e3 : bd * (base * an) = base * (an * bd) := by rw [Int.mul_left_comm, Int.mul_comm bd an]
  omega

/-- rounded up: the least number such -/
theorem upQ_least {w n d : Int} (hw : 0 ≤ w) (hn : 0 ≤ n) (hd : 1 ≤ d) : 0 ≤ upQ w n d ∧ w * n ≤ upQ w n d * d ∧ (upQ w n d = 0 ∨ (upQ w n d - 1) * d < w * n) := by
  have hp := Int.mul_nonneg hw hn
  unfold upQ
  generalize w * n = p at *
  have h1 := Int.mul_ediv_add_emod (p + d - 1) d
  have h2 := Int.emod_nonneg (p + d - 1) (b := d) (by omega)
  have h3 := Int.emod_lt_of_pos (p + d - 1) (b := d) (by omega)
  have h4 : 0 ≤ (p + d - 1) / d := Int.ediv_nonneg (by omega) (by omega)
  refine ⟨h4, ?_, ?_⟩
  · rw [Int.mul_comm]; omega
  · right
    rw [Int.sub_mul, Int.one_mul, Int.mul_comm ((p + d - 1) / d) d]
    omega

end Go.Proofs.YtelcmkccfjdmjaaGreatDoor
