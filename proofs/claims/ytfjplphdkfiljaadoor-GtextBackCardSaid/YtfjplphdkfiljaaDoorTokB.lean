/-
  Walks: slices.IndexFunc and ContainsFunc at bytes; token.Right and its reference.
-/
import Derived.Test.YtfjplphdkfiljaaDoorProg
import Derived.Test.YtfjplphdkfiljaaDoorBase
import Derived.Test.YtfjplphdkfiljaaDoorWordsSpec
namespace Go.Proofs.YtfjplphdkfiljaaDoor
open Go.Proofs Go.RowKit Go.Shelf

theorem sign_any (c : UInt8) (w : World) :
    Calls Tryd.prog 154 #[.int .u8 (c.toNat : Int)] w fun e w' => e = .returned (.bool (signB c)) ∧ w = w' := by
  unfold signB
  go_enter Tryd.func154, Tryd.ntmps154
  go_wp2
  all_goals
    go_ret
    exact ⟨by simp [*] <;> omega, rfl⟩

/-- a word: some letters, all of them signs -/
def wordB (s : ByteArray) : Bool := !s.toList.isEmpty && !(s.data.toList.any fun c => !signB c)

theorem wp_guard_call {P : Program} {w : World} {ops : Array Oper} {rest : List Oper} {o : Oper} {a : Act} {Q : Exit → Act → World → Prop}
    (hw : Region.wanted o (yielded ops a.tmps) = true) (h : wpList P ops Q ({ o with guard := none } :: rest) a w) : wpList P ops Q (o :: rest) a w := by
  have e : o.wp P a w = ({ o with guard := none } : Oper).wp P a w := rfl
  simp only [wpList, hw, if_true] at h ⊢
  have : Region.wanted { o with guard := none } (yielded ops a.tmps) = true := rfl
  rw [this] at h
  exact h

end Go.Proofs.YtfjplphdkfiljaaDoor
