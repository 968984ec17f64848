/-
  Walks of package rank: the rank that is thrown.
-/
import Derived.Test.YtfjplphdkfiljaaDoorProg
import Derived.Test.YtfjplphdkfiljaaDoorShufA
import Derived.Deep.AppendLies
namespace Go.Proofs.YtfjplphdkfiljaaDoor
open Go.Proofs Go.RowKit Go.Shelf

theorem drew_grown (w : World) (row : Option Nat) : w.grownBy w.drew row := ⟨rfl, rfl, rfl, Nat.le_refl _, fun _ _ _ => rfl⟩

set_option maxRecDepth 100000 in
set_option maxHeartbeats 2000000 in
theorem shufSwap_any (base O g n cap i k : Nat) (c : List Int) (W : World) (hi : i < n) (hk : k < n) (hn : n ≤ 1000000) (hOg : O ≠ g) (hO : W.cell? ⟨O, 0, none⟩ = some (.slice (some ⟨g, 0, none⟩) n cap)) (hr : RowC W base g n cap c) :
    Calls Tryd.prog 108 (#[.int .i64 i, .int .i64 k] ++ #[.pointer (some ⟨O, 0, none⟩)]) W fun e w' => (∃ v, e = .returned v) ∧ Aside (RowC w' base g n cap (swapL c i k)) ∧ Aside (W.grownBy w' (some g)) := by
  have HR := Lib.hid hr
  have hlc := hr.len
  obtain ⟨x, hx⟩ : ∃ x, c[i]? = some x := ⟨c[i]'(by omega), List.getElem?_eq_getElem _⟩
  obtain ⟨y, hy⟩ : ∃ y, c[k]? = some y := ⟨c[k]'(by omega), List.getElem?_eq_getElem _⟩
  have HSW := Lib.hid (show swapL c i k = (c.set i y).set k x by unfold swapL; rw [getD_of hx, getD_of hy])
  have c1 := hr.cell hx
  have c2 := hr.cell hy
  have z1 := hr.frozenAt i
  have z2 := hr.frozenAt k
  have hi2 : (i : Int) < (n : Int) := by omega
  have hk2 : (k : Int) < (n : Int) := by omega
  have hi0 : (0 : Int) ≤ (i : Int) := by omega
  have hk0 : (0 : Int) ≤ (k : Int) := by omega
  have o1 : (O = g) = False := by simp [hOg]
  have o2 : (g = O) = False := by simp [Ne.symm hOg]
  by_cases hki : k = i
  · subst hki
    obtain rfl : x = y := Option.some.inj (hx.symm.trans hy)
    clear hx hy hlc c2 z2 hr
    go_enter Tryd.func108, Tryd.ntmps108
    go_wp2
    go_region
    all_goals
      go_wp2
      go_end0
      refine ⟨⟨_, rfl⟩, ?_, ?_⟩
      · rw [HSW.out]
        first
          | exact (HR.out.put k x).put k x
          | (rw [List.set_comm _ _ (by omega)]; exact (HR.out.put k x).put k x)
      · first
          | exact (HR.out.stored k (.int .i64 x)).2.trans ((HR.out.put k x).stored k (.int .i64 x)).2
          | exact (HR.out.stored k (.int .i64 x)).2.trans ((HR.out.put k x).stored k (.int .i64 x)).2
          | exact ((HR.out.stored k (.int .i64 x)).2.trans ((HR.out.put k x).stored k (.int .i64 x)).2).trans (drew_grown _ _)
          | exact ((HR.out.stored k (.int .i64 x)).2.trans ((HR.out.put k x).stored k (.int .i64 x)).2).trans (drew_grown _ _)
  · have q1 : (k = i) = False := by simp [hki]
    have q2 : (i = k) = False := by simp [Ne.symm hki]
    clear hx hy hlc hr
    go_enter Tryd.func108, Tryd.ntmps108
    go_wp2
    go_region
    all_goals
      go_wp2
      go_end0
      refine ⟨⟨_, rfl⟩, ?_, ?_⟩
      · rw [HSW.out]
        first
          | exact (HR.out.put i y).put k x
          | (rw [List.set_comm _ _ (by omega)]; exact (HR.out.put k x).put i y)
      · first
          | exact (HR.out.stored i (.int .i64 y)).2.trans ((HR.out.put i y).stored k (.int .i64 x)).2
          | exact (HR.out.stored k (.int .i64 x)).2.trans ((HR.out.put k x).stored i (.int .i64 y)).2
          | exact ((HR.out.stored i (.int .i64 y)).2.trans ((HR.out.put i y).stored k (.int .i64 x)).2).trans (drew_grown _ _)
          | exact ((HR.out.stored k (.int .i64 x)).2.trans ((HR.out.put k x).stored i (.int .i64 y)).2).trans (drew_grown _ _)

end Go.Proofs.YtfjplphdkfiljaaDoor
