/-
  Walks of package token and its reference: letters, Upper, Right.
-/
import Derived.Test.YtfjplphdkfiljaaDoorProg
import Derived.Test.YtfjplphdkfiljaaDoorBase
namespace Go.Proofs.YtfjplphdkfiljaaDoor
open Go.Proofs Go.RowKit Go.Shelf

theorem elem_u8 : Elem Tryd.prog 5 (.int .u8 0) 1 1 := ⟨by kernel_rfl, rfl, by decide⟩
theorem elem_string : Elem Tryd.prog 9 (.string ByteArray.empty) 1 16 := ⟨by kernel_rfl, rfl, by decide⟩

def upB (c : UInt8) : UInt8 := if 97 ≤ c.toNat ∧ c.toNat ≤ 122 then c - 32 else c
def upS (s : ByteArray) : ByteArray := ⟨(s.data.toList.map upB).toArray⟩

theorem upB_in (c : UInt8) (h : 97 ≤ c.toNat ∧ c.toNat ≤ 122) : (((upB c).toNat : Int)) = (c.toNat : Int) - 32 := by
  unfold upB
  rw [if_pos h, UInt8.toNat_sub_of_le]
  · simp; omega
  · rw [UInt8.le_iff_toNat_le]; simp; omega
theorem upB_out (c : UInt8) (h : ¬ (97 ≤ c.toNat ∧ c.toNat ≤ 122)) : upB c = c := by
  unfold upB
  rw [if_neg h]

end Go.Proofs.YtfjplphdkfiljaaDoor
