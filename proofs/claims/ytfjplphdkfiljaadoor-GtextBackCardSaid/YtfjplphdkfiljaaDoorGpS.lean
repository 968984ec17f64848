/-
  Walks: are two graphs the same, are words few.
-/
import Derived.Test.YtfjplphdkfiljaaDoorProg
import Derived.Test.YtfjplphdkfiljaaDoorGpE
import Derived.Laws.StructEq
namespace Go.Proofs.YtfjplphdkfiljaaDoor
open Go.Proofs Go.RowKit Go.Shelf

@[go_sem] theorem eqE_self (x y : Int) (z : Int) (w : World) : (Op.equalIn 10000 99 (.agg #[.int .i64 x, .int .i64 y, .int .u64 z]) (.agg #[.int .i64 x, .int .i64 y, .int .u64 z])).run Tryd.prog w = .ok true w := by
  have u3 := Tryd.underlying3
  have a3 := Tryd.isAgg3
  have z3 := Tryd.sizeOf3
  have u4 := Tryd.underlying22
  have a4 := Tryd.isAgg22
  have z4 := Tryd.sizeOf22
  have hS : Tryd.prog.underlying 99 = some (.struct (Tryd.prog.fieldsOf 99)) := by kernel_rfl
  have hp : Tryd.prog.stoodInHeld 99 = false := by kernel_rfl
  rw [show (10000 : Nat) = 9999 + 1 from rfl, run_equalIn_agg w 9999 _ _ _ hS hp]
  simp only [Program.fieldsOf, Tryd.underlying99]
  go_simp

set_option maxHeartbeats 1000000 in
/-- two graphs of the same nodes and edges are the same -/
theorem refGSame_self (n : Int) (es : List EdgeD) (ao bo : Option Addr) (ca cb : Nat) (w : World) (hl : es.length ≤ 9223372036854775807) (ha : Cel w ao (flat es)) (hb : Cel w bo (flat es)) :
    Calls Tryd.prog 57 #[.agg #[.int .i64 n, .slice ao es.length ca], .agg #[.int .i64 n, .slice bo es.length cb]] w fun e w' => e = .returned (.bool true) ∧ Below w.heap.size w w' := by
  have HA := Lib.hid ha
  have HB := Lib.hid hb
  clear ha hb
  go_enter Tryd.func57, Tryd.ntmps57
  go_wp2
  obtain ⟨W, hW, HW, HP, HR⟩ : ∃ W, W = (w.alloc (Obj.cells #[.int .i64 n, .slice ao es.length ca] 52)).alloc (Obj.cells #[.int .i64 n, .slice bo es.length cb] 52) ∧ Below w.heap.size w W ∧ C2 W w.heap.size (.int .i64 n) (.slice ao es.length ca) ∧ C2 W (w.heap.size + 1) (.int .i64 n) (.slice bo es.length cb) :=
    ⟨_, rfl, (Below.of_al _ _).al _, (C2.new w 52 _ _).go (Below.of_al _ _), C2.newAt _ 52 _ _ (by simp)⟩
  rw [← hW]
  clear hW
  have HW1 := Lib.hid HW
  have HA1 := Lib.hid (HA.out.go HW)
  have HB1 := Lib.hid (HB.out.go HW)
  clear HW HA HB
  obtain ⟨p0, p1, -, -⟩ := HP
  obtain ⟨q0, q1, -, -⟩ := HR
  go_loopg [5] es.length (fun gq i wr => ∃ k q : Nat, k ≤ es.length ∧ es.length - k ≤ gq ∧ i = .int .i64 k ∧ wr = W.drewN q)
  case atStart => exact ⟨0, 0, Nat.zero_le _, by omega, rfl, rfl⟩
  case round =>
    obtain ⟨k, q, hk, hg, rfl, rfl⟩ := hrel
    by_cases hlt : k < es.length
    · obtain ⟨b1, o1, hao, f1, f2, f3⟩ := HA1.out.edge hlt
      obtain ⟨b2, o2, hbo, g1, g2, g3⟩ := HB1.out.edge hlt
      subst hao hbo
      have hlt3 : (k : Int) < (es.length : Int) := by omega
      have hk0 : (0 : Int) ≤ (k : Int) := by omega
      generalize es[k] = x at *
      obtain ⟨xf, xt, xw⟩ := x
      simp only at f1 f2 f3 g1 g2 g3
      go_wp2
      go_quiet (fail)
      go_wp2
      go_roundg (es.length - (k + 1))
      case measure => omega
      case rel => exact ⟨k + 1, q + nq, by omega, by omega, by go_num, by first | rfl | (rw [World.drewN_add])⟩
    · obtain rfl : k = es.length := by omega
      go_wp2
      go_ret
      exact ⟨rfl, HW1.out.dr _⟩

def lightW (l : List ByteArray) : Bool := decide (l.length ≤ 200) && l.all (fun s => decide (s.size ≤ 100))
theorem lightW_mem {l : List ByteArray} (h : lightW l = true) : l.length ≤ 200 ∧ ∀ s ∈ l, s.size ≤ 100 := by
  unfold lightW at h
  simp only [Bool.and_eq_true, decide_eq_true_eq, List.all_eq_true] at h
  exact h
set_option maxHeartbeats 1000000 in
theorem light06_any (l : List ByteArray) (ao : Option Addr) (cap : Nat) (w : World) (hl : l.length ≤ 9223372036854775807) (hc : Cel w ao (l.map encS)) :
    Calls Tryd.prog 54 #[.slice ao l.length cap] w fun e w' => e = .returned (.bool (lightW l)) ∧ Below w.heap.size w w' := by
  have HC := Lib.hid hc
  clear hc
  by_cases h1 : (200 : Int) < (l.length : Int)
  · have HR := Lib.hid (show lightW l = false by unfold lightW; rw [decide_eq_false (by omega)]; rfl)
    generalize lightW l = r at *
    go_enter Tryd.func54, Tryd.ntmps54
    go_wp2
    go_ret
    exact ⟨by rw [HR.out]; rfl, Below.refl _ _⟩
  · have HD := Lib.hid (fun k (hk : k < l.length) (h : 100 < l[k].size) => (show lightW l = false by
      unfold lightW
      rw [show l.all (fun s => decide (s.size ≤ 100)) = false by rw [List.all_eq_false]; exact ⟨l[k], List.getElem_mem hk, by simp; omega⟩]
      simp))
    have HE := Lib.hid (fun h : (∀ j (h : j < l.length), j < l.length → l[j].size ≤ 100) => (show lightW l = true by
      unfold lightW
      rw [decide_eq_true (by omega), Bool.true_and, List.all_eq_true]
      intro s hs
      obtain ⟨i, hi, rfl⟩ := List.mem_iff_getElem.1 hs
      simpa using h i hi hi))
    generalize lightW l = r at *
    go_enter Tryd.func54, Tryd.ntmps54
    go_wp2
    go_loopg [3] l.length (fun g i wr => ∃ k q : Nat, k ≤ l.length ∧ l.length - k ≤ g ∧ i = .int .i64 k ∧ wr = w.drewN q ∧ Aside (∀ j (h : j < l.length), j < k → l[j].size ≤ 100))
    case atStart => exact ⟨0, 0, Nat.zero_le _, by omega, rfl, rfl, fun j _ h => absurd h (Nat.not_lt_zero _)⟩
    case round =>
      obtain ⟨k, q, hk, hg, rfl, rfl, HF⟩ := hrel
      by_cases hlt : k < l.length
      · obtain ⟨b1, o1, hao, f1⟩ := HC.out.at hlt
        subst hao
        have hlt3 : (k : Int) < (l.length : Int) := by omega
        have hk0 : (0 : Int) ≤ (k : Int) := by omega
        have HD2 := Lib.hid (HD.out k hlt)
        have HM := Lib.hid (fun h : l[k].size ≤ 100 => (fun j (h1 : j < l.length) (h2 : j < k + 1) => (by
          by_cases e : j = k
          · subst e; exact h
          · exact HF.out j h1 (by omega) : l[j].size ≤ 100)))
        generalize l[k] = x at *
        by_cases hx : 100 < x.size
        · have HR := Lib.hid (HD2.out hx)
          go_wp2
          go_ret
          exact ⟨by rw [HR.out]; rfl, by repeat (first | exact Below.refl _ _ | refine Below.al ?_ _ | refine Below.dr ?_ _ | refine Below.drew ?_ | assumption | (refine Below.st ?_ (by assumption)))⟩
        · have HM2 := Lib.hid (HM.out (by omega))
          go_wp2
          go_roundg (l.length - (k + 1))
          case measure => omega
          case rel => exact ⟨k + 1, q, by omega, by omega, by go_num, rfl, HM2.out⟩
      · obtain rfl : k = l.length := by omega
        have HR := Lib.hid (HE.out HF.out)
        go_wp2
        go_ret
        exact ⟨by rw [HR.out]; rfl, by repeat (first | exact Below.refl _ _ | refine Below.al ?_ _ | refine Below.dr ?_ _ | refine Below.drew ?_ | assumption | (refine Below.st ?_ (by assumption)))⟩

end Go.Proofs.YtfjplphdkfiljaaDoor
