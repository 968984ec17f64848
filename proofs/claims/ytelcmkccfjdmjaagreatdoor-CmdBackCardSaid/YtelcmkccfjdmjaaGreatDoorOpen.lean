/-
  How the arguments of a statement are opened: rows of numbers, of texts, routes.
-/
import Derived.Test.YtelcmkccfjdmjaaGreatDoorBase
import Derived.ProofKit
import Derived.OpenShut
import Derived.ShutString
import Derived.SizedLaws
import Derived.SliceStrings
import Derived.Lib.SmallJoins
import Derived.Deep.Slices
namespace Go.Proofs.YtelcmkccfjdmjaaGreatDoor
open Go.ChangeShapes Go.WideShapes Go.ChangeAt Go.RowKit
open Go.ChangeMaps (open_string shut_string)

section
variable {H : Type} {enc : TypeId × Value → H} {P : Program} {w : World}

theorem rd_ints {t e : TypeId} {k : IntKind} {fuel : Nat} {v : Value} {x : DataW H × List MemPlace} (ht : P.underlying t = some (.slice e)) (he : P.underlying e = some (.int k)) (hc : P.cellsOf e = 1)
    (h : DataW.trod enc P w 0 (fun _ => true) true fuel t [v] = some x) :
    ∃ (ao : Option Addr) (cap : Nat) (l : List Int), v = .slice ao l.length cap ∧ Cel w ao (l.map (.int k)) ∧ l.length ≤ 9223372036854775807 ∧ ∀ n ∈ l, (Lit.int k n).wf = true := by
  rcases open_ints ht he hc h with ⟨hcs, _⟩ | ⟨a, len, cap, zs, hcs, _, hl, hm, hz, _, hcell, hwz⟩
  · simp at hcs
    subst hcs
    exact ⟨none, 0, [], rfl, Cel.nil _ _, by simp, by simp⟩
  · simp at hcs
    subst hcs
    have hz' : zs.length = cap := by simpa using hz
    have e : (zs.take len).length = len := by simp; omega
    refine ⟨some a, cap, zs.take len, by rw [e], ?_, by unfold maxLen at hm; omega, fun n hn => hwz n (List.mem_of_mem_take hn)⟩
    intro i u hu
    have hi : i < len := by
      have := (List.getElem?_eq_some_iff.1 hu).1
      simp at this; omega
    have hu' : u = .int k (zs.getD i 0) := by
      simp [hi] at hu
      obtain ⟨y, hy, rfl⟩ := hu
      simp [List.getD, hy]
    subst hu'
    have hcl := hcell i (by omega)
    obtain ⟨b, o, s⟩ := a
    cases s with
    | none => exact ⟨b, o, rfl, by rw [Addr.add_lit] at hcl; exact hcl⟩
    | some sp =>
      have h0 := hcell 0 (by omega)
      have : w.cell? ((⟨b, o, some sp⟩ : Addr).add 0) = none := by
        unfold World.cell? Addr.add
        rw [if_pos rfl]
        split <;> simp
      rw [this] at h0
      cases h0

theorem wf_i64 {n : Int} (h : (Lit.int .i64 n).wf = true) : -9223372036854775808 ≤ n ∧ n ≤ 9223372036854775807 := by
  simp [Lit.wf, IntKind.min, IntKind.max, IntKind.signed, IntKind.bits] at h; omega
theorem wf_u64 {n : Int} (h : (Lit.int .u64 n).wf = true) : 0 ≤ n ∧ n ≤ 18446744073709551615 := by
  simp [Lit.wf, IntKind.min, IntKind.max, IntKind.signed, IntKind.bits] at h; omega
end
end Go.Proofs.YtelcmkccfjdmjaaGreatDoor
