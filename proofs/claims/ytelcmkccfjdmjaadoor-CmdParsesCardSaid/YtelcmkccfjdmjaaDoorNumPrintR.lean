/-
  The walk of the reference's digits.
-/
import Derived.Test.YtelcmkccfjdmjaaDoorProg
import Derived.Test.YtelcmkccfjdmjaaDoorNumPrint
namespace Go.Proofs.YtelcmkccfjdmjaaDoor
open Go.Proofs Go.RowKit Go.Shelf Go.Sort

theorem step_string_of {P : Program} {w : World} {ops : Array Oper} {o : Oper} {a : Act} {K : Act → World → Prop} {Q : Exit → Act → World → Prop} {F : Prop} (hgd : o.guard = none) (src dst : TypeId) (x : Operand)
    (ho : o.op = .convert src dst x) (E : TypeId) (l : List UInt8) (ao : Option Addr) (n cap : Nat) (hn : l.length = n) (hx : a.eval x = .slice ao n cap) (hr : (convert src dst (.slice ao n cap)).run P w = .ok (.string ⟨l.toArray⟩) w)
    (h : K (a.put o.dst (.string ⟨l.toArray⟩)) w) : if Region.wanted o (yielded ops a.tmps) = true then Oper.wp P o a w K Q else F := by
  have hw : Region.wanted o (yielded ops a.tmps) = true := by simp [Region.wanted, hgd]
  rw [if_pos hw]
  unfold Oper.wp
  simp [ho, execOp, hx, hr, Result.andThen]
  exact h

theorem digit_byte (d : Nat) (h : d < 10) : ∃ c : UInt8, (c.toNat : Int) = 48 + (d : Int) ∧ UInt8.ofNat (48 + d) = c := by
  refine ⟨_, ?_, rfl⟩
  have : (UInt8.ofNat (48 + d)).toNat = 48 + d := by rw [UInt8.toNat_ofNat']; omega
  rw [this]
  omega

set_option maxHeartbeats 4000000 in
set_option maxRecDepth 100000 in
theorem refPrint_nat : ∀ (u : Nat), u < 18446744073709551616 → ∀ w : World,
    Calls Tryd.prog 48 #[.int .u64 u] w fun e w' => e = .returned (.string ⟨(Lib.decDigits u).toArray⟩) ∧ Below w.heap.size w w' := by
  intro u
  induction u using Nat.strongRecOn with
  | _ u ih =>
    intro hu w
    by_cases hs : u < 10
    · rw [Lib.decDigits_one hs]
      obtain ⟨c, hc, hc2⟩ := digit_byte u hs
      rw [hc2]
      clear hc2 ih
      go_enter Tryd.func48, Tryd.ntmps48
      go_wp2_with ((with_reducible refine wpList_string_of 5 [c] (some ⟨w.heap.size, 0, none⟩) 1 1 ?_ ?_ ?_ Tryd.underlying98 Tryd.underlying9 Tryd.underlying5 ?_); (· rfl); (· rfl); (· simp only [List.map_cons, List.map_nil, hc]; exact cel_new _ _ _ _))
      go_ret
      exact ⟨rfl, Below.of_al _ _⟩
    · have HI := Lib.hid (fun W => ih (u / 10) (by omega) (by omega) W)
      have hsz : (⟨(Lib.decDigits (u / 10)).toArray⟩ : ByteArray).size ≤ 20 := by
        have h1 := Lib.nDigits_le20 (u / 10) (by omega)
        rw [← Lib.decDigits_length] at h1
        exact h1
      have HD := Lib.hid (show (⟨(Lib.decDigits u).toArray⟩ : ByteArray) = ⟨(Lib.decDigits (u / 10)).toArray⟩ ++ ⟨#[UInt8.ofNat (48 + u % 10)]⟩ by
        apply Go.WideShapes.bytes_inj
        rw [Lib.decDigits, dif_neg hs]
        simp)
      obtain ⟨c, hc, hc2⟩ := digit_byte (u % 10) (by omega)
      rw [hc2] at HD
      clear hc2 ih
      have hq : Int.tdiv (u : Int) 10 = ((u / 10 : Nat) : Int) := by rw [Int.tdiv_eq_ediv_of_nonneg (by omega)]; omega
      have hr : Int.tmod (u : Int) 10 = ((u % 10 : Nat) : Int) := by rw [Int.tmod_eq_emod_of_nonneg (by omega)]; omega
      have hm : u % 10 < 10 := by omega
      have hd10 : u / 10 < 18446744073709551616 := by omega
      generalize (⟨(Lib.decDigits u).toArray⟩ : ByteArray) = D at *
      generalize (⟨(Lib.decDigits (u / 10)).toArray⟩ : ByteArray) = D2 at *
      generalize u / 10 = q at *
      generalize u % 10 = m at *
      have v1 : IntKind.u64.wrap (q : Int) = (q : Int) := IntWalk.u64_in _ (by omega)
      have v2 : IntKind.u64.wrap (m : Int) = (m : Int) := IntWalk.u64_in _ (by omega)
      have v3 : IntKind.u64.wrap (48 + (m : Int)) = 48 + (m : Int) := IntWalk.u64_in _ (by omega)
      have v4 : IntKind.u8.wrap (48 + (m : Int)) = 48 + (m : Int) := by rw [IntKind.wrap_u8]; omega
      have HCV : ∀ (W : World) (b : Nat), W.cell? ⟨b, 0, none⟩ = some (.int .u8 (48 + (m : Int))) → (convert 98 9 (.slice (some ⟨b, 0, none⟩) 1 1)).run Tryd.prog W = .ok (.string ⟨#[c]⟩) W := by
        intro W b hcell
        rw [← hc] at hcell
        exact run_convert_bytes_back (P := Tryd.prog) W 98 9 5 ⟨b, 0, none⟩ 1 [c] Tryd.underlying98 Tryd.underlying5 Tryd.underlying9 (fun j hj => by
          have : j = 0 := by simpa using hj
          subst this
          rw [Lib.add_plain]
          exact hcell)
      have HX := Lib.hid (fun (W' : World) (hb : Below (w.alloc (Obj.cells #[.int .u8 (48 + (m : Int))] 5)).drew.heap.size (w.alloc (Obj.cells #[.int .u8 (48 + (m : Int))] 5)).drew W') =>
        (cell_later hb (by go_simp) : W'.cell? ⟨w.heap.size, 0, none⟩ = some (.int .u8 (48 + (m : Int)))))
      go_enter Tryd.func48, Tryd.ntmps48
      go_wp2
      go_region_with (first
        | (go_at_call 48; refine (HI.out _).mono ?_; rintro e w1 ⟨rfl, hb1⟩; first | (have hx := HX.out _ hb1) | skip))
      all_goals
        go_wp2
        go_ret
        exact ⟨by rw [HD.out]; rfl, by repeat (first | exact Below.refl _ _ | refine Below.al ?_ _ | refine Below.dr ?_ _ | refine Below.drew ?_ | assumption | (refine Below.st ?_ (by assumption)))⟩

theorem refPrint_any (n : Int) (h0 : 0 ≤ n) (h1 : n < 18446744073709551616) (w : World) :
    Calls Tryd.prog 48 #[.int .u64 n] w fun e w' => e = .returned (.string (printI n)) ∧ Below w.heap.size w w' := by
  obtain ⟨u, rfl⟩ := Int.eq_ofNat_of_zero_le h0
  exact refPrint_nat u (by omega) w

end Go.Proofs.YtelcmkccfjdmjaaDoor
