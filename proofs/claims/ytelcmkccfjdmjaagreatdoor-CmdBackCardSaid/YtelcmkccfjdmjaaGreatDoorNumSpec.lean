/-
  Numbers that are checked, and their digits, as plain functions; no program in sight.
-/
import Derived.Test.YtelcmkccfjdmjaaGreatDoorBase
import Derived.Lib.ItoaNum
import Derived.Lib.ItoaLen
namespace Go.Proofs.YtelcmkccfjdmjaaGreatDoor
open Go.Proofs Go.RowKit Go.Shelf

def addI (a b : Int) : Int × Int := if a + b < 18446744073709551616 then (a + b, 0) else (0, 6)
def subI (a b : Int) : Int × Int := if b ≤ a then (a - b, 0) else (0, 6)
def mulI (a b : Int) : Int × Int := if a * b < 18446744073709551616 then (a * b, 0) else (0, 6)
def sumI : Int → List Int → Int × Int
  | n, [] => (n, 0)
  | n, x :: r => if n + x < 18446744073709551616 then sumI (n + x) r else (0, 6)

theorem sumI_ok {l : List Int} {k : Nat} {n : Int} (h : k < l.length) (h2 : n + l[k] < 18446744073709551616) : sumI n (l.drop k) = sumI (n + l[k]) (l.drop (k + 1)) := by
  rw [List.drop_eq_getElem_cons h, sumI, if_pos h2]
theorem sumI_over {l : List Int} {k : Nat} {n : Int} (h : k < l.length) (h2 : ¬ n + l[k] < 18446744073709551616) : sumI n (l.drop k) = (0, 6) := by
  rw [List.drop_eq_getElem_cons h, sumI, if_neg h2]
theorem sumI_end (l : List Int) (n : Int) : sumI n (l.drop l.length) = (n, 0) := by
  rw [List.drop_of_length_le (Nat.le_refl _)]; rfl

def isDig (c : UInt8) : Bool := decide (48 ≤ (c.toNat : Int)) && decide ((c.toNat : Int) ≤ 57)
def valD (l : List UInt8) (n : Int) : Int := l.foldl (fun n c => n * 10 + ((c.toNat : Int) - 48)) n

/-- not begun as a number -/
def noNum (s : ByteArray) : Prop := s.size = 0 ∨ (s.data.toList.headD 0 = 48 ∧ s.size ≠ 1)
instance (s : ByteArray) : Decidable (noNum s) := by unfold noNum; infer_instance

def parseI (s : ByteArray) : Int × Int :=
  if noNum s then (0, 3)
  else if s.data.toList.any (fun c => !isDig c) then (0, 3)
  else if 18446744073709551616 ≤ valD s.data.toList 0 then (0, 6)
  else (valD s.data.toList 0, 0)

theorem parseI_bad {s : ByteArray} (h : noNum s) : parseI s = (0, 3) := if_pos h
theorem parseI_let {s : ByteArray} (h2 : s.data.toList.any (fun c => !isDig c) = true) : parseI s = (0, 3) := by
  unfold parseI
  by_cases h : noNum s
  · rw [if_pos h]
  · rw [if_neg h, if_pos h2]
theorem parseI_over {s : ByteArray} (h : ¬ noNum s) (h2 : ¬ s.data.toList.any (fun c => !isDig c) = true) (h3 : 18446744073709551616 ≤ valD s.data.toList 0) : parseI s = (0, 6) := by
  unfold parseI; rw [if_neg h, if_neg h2, if_pos h3]
theorem parseI_ok {s : ByteArray} (h : ¬ noNum s) (h2 : ¬ s.data.toList.any (fun c => !isDig c) = true) (h3 : ¬ 18446744073709551616 ≤ valD s.data.toList 0) : parseI s = (valD s.data.toList 0, 0) := by
  unfold parseI; rw [if_neg h, if_neg h2, if_neg h3]

theorem isDig_of {c : UInt8} (h : isDig c = true) : 48 ≤ (c.toNat : Int) ∧ (c.toNat : Int) ≤ 57 := by
  unfold isDig at h
  simpa using h

/-- digits only rise -/
theorem valD_mono : ∀ (l : List UInt8) (n : Int), 0 ≤ n → (∀ c ∈ l, isDig c = true) → n ≤ valD l n := by
  intro l
  induction l with
  | nil => intro n _ _; exact Int.le_refl _
  | cons c l ih =>
    intro n hn h
    have hc := isDig_of (h c (by simp))
    have := ih (n * 10 + ((c.toNat : Int) - 48)) (by omega) (fun d hd => h d (by simp [hd]))
    unfold valD at this ⊢
    rw [List.foldl_cons]
    omega

theorem valD_append (l r : List UInt8) (n : Int) : valD (l ++ r) n = valD r (valD l n) := by
  unfold valD
  rw [List.foldl_append]

theorem valD_take_succ {l : List UInt8} {k : Nat} (h : k < l.length) : valD (l.take (k + 1)) 0 = valD (l.take k) 0 * 10 + ((l[k].toNat : Int) - 48) := by
  rw [List.take_succ_eq_append_getElem h, valD_append]
  rfl

theorem valD_take_le {l : List UInt8} (k : Nat) (h : ∀ c ∈ l, isDig c = true) : 0 ≤ valD (l.take k) 0 ∧ valD (l.take k) 0 ≤ valD l 0 := by
  have h0 := valD_mono (l.take k) 0 (Int.le_refl _) (fun c hc => h c (List.mem_of_mem_take hc))
  refine ⟨h0, ?_⟩
  conv => rhs; rw [← List.take_append_drop k l, valD_append]
  exact valD_mono _ _ h0 (fun c hc => h c (List.mem_of_mem_drop hc))

def intI (s : ByteArray) (most : Int) : Int × Int :=
  if (parseI s).2 ≠ 0 then (0, (parseI s).2)
  else if most < 0 ∨ most < (parseI s).1 then (0, 2)
  else ((parseI s).1, 0)

theorem parseI_cases (s : ByteArray) : (parseI s = (0, 3)) ∨ (parseI s = (0, 6)) ∨ ∃ v, parseI s = (v, 0) ∧ 0 ≤ v ∧ v < 18446744073709551616 := by
  unfold parseI
  split
  · exact .inl rfl
  · split
    · exact .inl rfl
    · rename_i h2
      split
      · exact .inr (.inl rfl)
      · rename_i h3
        refine .inr (.inr ⟨_, rfl, ?_, by omega⟩)
        exact valD_mono _ _ (Int.le_refl _) (fun c hc => by
          have : s.data.toList.any (fun c => !isDig c) = false := by simpa using h2
          rw [List.any_eq_false] at this
          simpa using this c hc)

/-- the text of a number -/
def printI (n : Int) : ByteArray := ⟨(Lib.decDigits n.toNat).toArray⟩

theorem printI_data (n : Int) : (printI n).data.toList = Lib.decDigits n.toNat := by simp [printI]
theorem printI_size_le {n : Int} (h0 : 0 ≤ n) (h : n < 18446744073709551616) : (printI n).size ≤ 20 := by
  have e : (printI n).size = (Lib.decDigits n.toNat).length := by
    rw [← printI_data]; simp
  rw [e, Lib.decDigits_length]
  exact Lib.nDigits_le20 _ (by omega)

theorem decDigits_dig : ∀ (u : Nat), ∀ c ∈ Lib.decDigits u, isDig c = true := by
  intro u
  induction u using Nat.strongRecOn with
  | _ u ih =>
    intro c hc
    have key : ∀ d : Nat, d < 10 → isDig (UInt8.ofNat (48 + d)) = true := by
      intro d hd
      have e : (UInt8.ofNat (48 + d)).toNat = 48 + d := by rw [UInt8.toNat_ofNat']; omega
      unfold isDig
      rw [e]
      simp; omega
    rw [Lib.decDigits] at hc
    split at hc
    · rename_i h
      rw [List.mem_singleton] at hc
      rw [hc]
      exact key u h
    · rw [List.mem_append, List.mem_singleton] at hc
      rcases hc with hc | hc
      · exact ih (u / 10) (by omega) c hc
      · rw [hc]
        exact key _ (by omega)

theorem valD_digits (u : Nat) : valD (Lib.decDigits u) 0 = (u : Int) := by
  induction u using Nat.strongRecOn with
  | _ u ih =>
    rw [Lib.decDigits]
    split
    · rename_i h
      have e : (UInt8.ofNat (48 + u)).toNat = 48 + u := by rw [UInt8.toNat_ofNat']; omega
      simp only [valD, List.foldl_cons, List.foldl_nil, e]
      omega
    · rename_i h
      have e : (UInt8.ofNat (48 + u % 10)).toNat = 48 + u % 10 := by rw [UInt8.toNat_ofNat']; omega
      rw [valD_append, ih (u / 10) (by omega)]
      simp only [valD, List.foldl_cons, List.foldl_nil, e]
      omega

theorem decDigits_ne (u : Nat) : Lib.decDigits u ≠ [] := by
  intro e
  have := congrArg List.length e
  rw [Lib.decDigits_length] at this
  have h2 := Lib.nDigits_pos u
  simp at this
  omega

/-- no number begins with 0, but 0 -/
theorem decDigits_head (u : Nat) (h : 1 ≤ u) : ∃ c r, Lib.decDigits u = c :: r ∧ c ≠ 48 := by
  induction u using Nat.strongRecOn with
  | _ u ih =>
    rw [Lib.decDigits]
    split
    · rename_i h10
      refine ⟨_, _, rfl, ?_⟩
      intro e
      have := congrArg UInt8.toNat e
      rw [UInt8.toNat_ofNat'] at this
      simp at this
      omega
    · obtain ⟨c, r, e, hc⟩ := ih (u / 10) (by omega) (by omega)
      rw [e]
      exact ⟨c, _, rfl, hc⟩

theorem parse_print {n : Int} (h0 : 0 ≤ n) (h : n < 18446744073709551616) : parseI (printI n) = (n, 0) := by
  have hs : (printI n).size = (Lib.decDigits n.toNat).length := by rw [← printI_data]; simp
  have hv : valD (printI n).data.toList 0 = n := by rw [printI_data, valD_digits]; omega
  have h1 : ¬ noNum (printI n) := by
    unfold noNum
    rw [printI_data]
    intro hq
    rcases hq with hq | ⟨hq, hz⟩
    · rw [hs] at hq
      exact decDigits_ne _ (List.eq_nil_of_length_eq_zero hq)
    · by_cases hn : 1 ≤ n.toNat
      · obtain ⟨c, r, e, hc⟩ := decDigits_head _ hn
        rw [e] at hq
        exact hc hq
      · have e : n.toNat = 0 := by omega
        rw [hs, e, Lib.decDigits_length, Lib.nDigits_small (by decide)] at hz
        exact hz rfl
  have h2 : ¬ (printI n).data.toList.any (fun c => !isDig c) = true := by
    rw [printI_data, List.any_eq_true]
    rintro ⟨c, hc, h⟩
    rw [decDigits_dig _ c hc] at h
    cases h
  rw [parseI_ok h1 h2 (by rw [hv]; omega), hv]

/-- digits that do not begin with 0 are those of their number -/
theorem digits_back : ∀ (l : List UInt8), (∀ c ∈ l, isDig c = true) → l ≠ [] → (l.headD 0 = 48 → l.length = 1) → Lib.decDigits (valD l 0).toNat = l := by
  intro l
  induction hn : l.length using Nat.strongRecOn generalizing l with
  | _ n ih =>
    intro h hne hz
    rcases List.eq_nil_or_concat l with rfl | ⟨r, c, rfl⟩
    · exact absurd rfl hne
    · rw [List.concat_eq_append] at *
      have hc := isDig_of (h c (by simp))
      have hcn : UInt8.ofNat (48 + (c.toNat - 48)) = c := by
        apply UInt8.toNat_inj.1
        rw [UInt8.toNat_ofNat']
        have := c.toNat_lt
        omega
      rw [valD_append]
      have e1 : valD [c] (valD r 0) = valD r 0 * 10 + ((c.toNat : Int) - 48) := rfl
      rw [e1]
      have hr0 := valD_mono r 0 (Int.le_refl _) (fun d hd => h d (by simp [hd]))
      cases r with
      | nil =>
        have e : (valD [] 0 * 10 + ((c.toNat : Int) - 48)).toNat = c.toNat - 48 := by simp [valD]; omega
        rw [e, Lib.decDigits, dif_pos (by omega), hcn]
        rfl
      | cons d r =>
        have hd := isDig_of (h d (by simp))
        have hd48 : d ≠ 48 := by
          intro e
          have := hz (by simp [e])
          rw [← hn] at this
          simp at this
        have h1 := ih (d :: r).length (by rw [← hn]; simp) (d :: r) rfl (fun x hx => h x (List.mem_append_left _ hx)) (by simp) (by simp; intro e; exact absurd e hd48)
        have hpos : 1 ≤ valD (d :: r) 0 := by
          have hm := valD_mono r ((d.toNat : Int) - 48) (by omega) (fun x hx => h x (by simp [hx]))
          have e : valD (d :: r) 0 = valD r ((d.toNat : Int) - 48) := by simp [valD]
          have : d.toNat ≠ 48 := fun e => hd48 (UInt8.toNat_inj.1 (by simpa using e))
          omega
        generalize valD (d :: r) 0 = v at *
        rw [Lib.decDigits, dif_neg (by omega)]
        have e2 : (v * 10 + ((c.toNat : Int) - 48)).toNat / 10 = v.toNat := by omega
        have e3 : (v * 10 + ((c.toNat : Int) - 48)).toNat % 10 = c.toNat - 48 := by omega
        rw [e2, e3, h1, hcn]

theorem print_parse {s : ByteArray} {v : Int} (h : parseI s = (v, 0)) : printI v = s := by
  unfold parseI at h
  split at h
  · cases h
  · rename_i h1
    split at h
    · cases h
    · rename_i h2
      split at h
      · cases h
      · have hv := (Prod.mk.inj h).1
        unfold printI
        rw [← hv, digits_back]
        · intro c hc
          have : s.data.toList.any (fun c => !isDig c) = false := by simpa using h2
          rw [List.any_eq_false] at this
          simpa using this c hc
        · intro e
          exact h1 (.inl (by have : s.data.toList.length = s.size := by simp
                             rw [← this, e]; rfl))
        · intro e
          have : s.data.toList.length = s.size := by simp
          rw [this]
          exact Classical.byContradiction fun hx => h1 (.inr ⟨e, hx⟩)

end Go.Proofs.YtelcmkccfjdmjaaGreatDoor
