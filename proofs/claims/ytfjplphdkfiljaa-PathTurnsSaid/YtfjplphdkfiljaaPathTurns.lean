/-
  The order of routes is one: the plain law, and the walk of the statement PathTurns.
-/
import Derived.Test.YtfjplphdkfiljaaProg
import Derived.Test.YtfjplphdkfiljaaCmp
namespace Go.Proofs.Ytfjplphdkfiljaa
open Go.Proofs Go.RowKit Go.Shelf

theorem cmpI_neg (a b : Int) : cmpI a b = -cmpI b a := by unfold cmpI; split <;> (try split) <;> (try split) <;> omega
theorem lexI_neg : ∀ a b : List Int, lexI a b = -lexI b a
  | [], [] => by simp [lexI]
  | [], _ :: _ => by simp [lexI]
  | _ :: _, [] => by simp [lexI]
  | x :: xs, y :: ys => by
    have h1 := cmpI_neg x y
    have h2 := lexI_neg xs ys
    unfold lexI
    split <;> split <;> omega
theorem cmpR_neg (wa : Int) (la : List Int) (wb : Int) (lb : List Int) : cmpR wa la wb lb = -cmpR wb lb wa la := by
  have h1 := cmpI_neg wa wb
  have h2 := lexI_neg la lb
  unfold cmpR
  split <;> split <;> omega
theorem cmpI_zero {a b : Int} : cmpI a b = 0 ↔ a = b := by unfold cmpI; constructor <;> intro h <;> (repeat' split at *) <;> omega
theorem cmpI_le {a b : Int} : cmpI a b ≤ 0 ↔ a ≤ b := by unfold cmpI; constructor <;> intro h <;> (repeat' split at *) <;> omega
theorem lexI_trans : ∀ a b c : List Int, lexI a b ≤ 0 → lexI b c ≤ 0 → lexI a c ≤ 0
  | [], _, [], _, _ => by simp [lexI]
  | [], _, _ :: _, _, _ => by simp [lexI]
  | _ :: _, [], _, h, _ => by simp [lexI] at h
  | _ :: _, _ :: _, [], _, h => by simp [lexI] at h
  | x :: xs, y :: ys, z :: zs, h1, h2 => by
    have ih := lexI_trans xs ys zs
    have e1 := @cmpI_zero x y
    have e2 := @cmpI_zero y z
    have e3 := @cmpI_zero x z
    have l1 := @cmpI_le x y
    have l2 := @cmpI_le y z
    have l3 := @cmpI_le x z
    unfold lexI at h1 h2 ⊢
    split at h1 <;> split at h2 <;> split
    all_goals first
      | exact ih h1 h2
      | omega
theorem cmpR_trans {wa wb wc : Int} {a b c : List Int} (h1 : cmpR wa a wb b ≤ 0) (h2 : cmpR wb b wc c ≤ 0) : cmpR wa a wc c ≤ 0 := by
  have ih := lexI_trans a b c
  have e1 := @cmpI_zero wa wb
  have e2 := @cmpI_zero wb wc
  have e3 := @cmpI_zero wa wc
  have l1 := @cmpI_le wa wb
  have l2 := @cmpI_le wb wc
  have l3 := @cmpI_le wa wc
  unfold cmpR at h1 h2 ⊢
  split at h1 <;> split at h2 <;> split
  all_goals first
    | exact ih h1 h2
    | omega

theorem cmpR_bd (wa : Int) (la : List Int) (wb : Int) (lb : List Int) : -1 ≤ cmpR wa la wb lb ∧ cmpR wa la wb lb ≤ 1 := by
  have := cmpI_bd wa wb
  have := lexI_bd la lb
  unfold cmpR
  split <;> omega

set_option maxHeartbeats 2000000 in
theorem PathTurns_any (ao bo co : Option Addr) (ca cb cc : Nat) (la lb lc : List Int) (wa wb wc : Int) (w : World) (hla : la.length ≤ 9223372036854775807) (hlb : lb.length ≤ 9223372036854775807) (hlc : lc.length ≤ 9223372036854775807)
    (ha : Cel w ao (la.map encI)) (hb : Cel w bo (lb.map encI)) (hc : Cel w co (lc.map encI)) :
    Calls Try.prog 4 #[.agg #[.slice ao la.length ca, .int .u64 wa], .agg #[.slice bo lb.length cb, .int .u64 wb], .agg #[.slice co lc.length cc, .int .u64 wc]] w fun e w' => e = .returned (.bool true) ∧ Below w.heap.size w w' := by
  by_cases hbig : 100 < la.length ∨ 100 < lb.length ∨ 100 < lc.length
  · rcases Classical.em (100 < la.length) with h1 | h1
    rotate_left
    · rcases Classical.em (100 < lb.length) with h2 | h2
      rotate_left
      · have h3 : 100 < lc.length := by omega
        clear hbig
        go_enter Try.func4, Try.ntmps4
        go_wp2_with (go_at_call 19; refine (alive08_any _).mono ?_; rintro e w1 ⟨rfl, hb1⟩)
        go_ret
        exact ⟨rfl, by repeat (first | exact Below.refl _ _ | refine Below.al ?_ _ | refine Below.dr ?_ _ | refine Below.drew ?_ | assumption | (refine Below.st ?_ (by assumption)))⟩
      · clear hbig
        go_enter Try.func4, Try.ntmps4
        go_wp2_with (go_at_call 19; refine (alive08_any _).mono ?_; rintro e w1 ⟨rfl, hb1⟩)
        go_ret
        exact ⟨rfl, by repeat (first | exact Below.refl _ _ | refine Below.al ?_ _ | refine Below.dr ?_ _ | refine Below.drew ?_ | assumption | (refine Below.st ?_ (by assumption)))⟩
    · clear hbig
      go_enter Try.func4, Try.ntmps4
      go_wp2_with (go_at_call 19; refine (alive08_any _).mono ?_; rintro e w1 ⟨rfl, hb1⟩)
      go_ret
      exact ⟨rfl, by repeat (first | exact Below.refl _ _ | refine Below.al ?_ _ | refine Below.dr ?_ _ | refine Below.drew ?_ | assumption | (refine Below.st ?_ (by assumption)))⟩
  · have g1 : ¬ 100 < la.length := by omega
    have g2 : ¬ 100 < lb.length := by omega
    have g3 : ¬ 100 < lc.length := by omega
    clear hbig
    have HA := Lib.hid ha
    have HB := Lib.hid hb
    have HC := Lib.hid hc
    clear ha hb hc
    have X1 := Lib.hid (fun W h1 h2 => Cmp_any ao bo ca cb la lb wa wb W hla hlb h1 h2)
    have X2 := Lib.hid (fun W h1 h2 => Cmp_any bo ao cb ca lb la wb wa W hlb hla h1 h2)
    have X3 := Lib.hid (fun W h1 h2 => Cmp_any bo co cb cc lb lc wb wc W hlb hlc h1 h2)
    have X4 := Lib.hid (fun W h1 h2 => Cmp_any ao co ca cc la lc wa wc W hla hlc h1 h2)
    have hneg := cmpR_neg wa la wb lb
    have htr := @cmpR_trans wa wb wc la lb lc
    have hbd := cmpR_bd wb lb wa la
    generalize cmpR wa la wb lb = x at *
    generalize cmpR wb lb wa la = y at *
    generalize cmpR wb lb wc lc = z at *
    generalize cmpR wa la wc lc = v at *
    have y1 : -1 ≤ y := hbd.1
    have y2 : y ≤ 1 := hbd.2
    have w1 : IntKind.i64.wrap (-y) = -y := IntWalk.i64_in _ (by omega)
    have t1 : (x == -y) = true := by simp [hneg]
    by_cases c1 : 0 < x
    · have t2 : decide (0 < x) = true := by simp [c1]
      clear c1 htr hneg
      go_enter Try.func4, Try.ntmps4
      go_wp2
      obtain ⟨W, hW, c1, c2, c3, c4, c5, c6⟩ : ∃ W, W = ((w.alloc (Obj.cells #[.slice ao la.length ca, .int .u64 wa] 33)).alloc (Obj.cells #[.slice bo lb.length cb, .int .u64 wb] 33)).alloc (Obj.cells #[.slice co lc.length cc, .int .u64 wc] 33) ∧ W.cell? ⟨w.heap.size, 0, none⟩ = some (.slice ao la.length ca) ∧ W.cell? ⟨w.heap.size, 1, none⟩ = some (.int .u64 wa) ∧ W.cell? ⟨w.heap.size + 1, 0, none⟩ = some (.slice bo lb.length cb) ∧ W.cell? ⟨w.heap.size + 1, 1, none⟩ = some (.int .u64 wb) ∧ W.cell? ⟨w.heap.size + 1 + 1, 0, none⟩ = some (.slice co lc.length cc) ∧ W.cell? ⟨w.heap.size + 1 + 1, 1, none⟩ = some (.int .u64 wc) := ⟨_, rfl, by go_simp, by go_simp, by go_simp, by go_simp, by go_simp, by go_simp⟩
      rw [← hW]
      have e1 := fun p => cell_ext p c1
      have e2 := fun p => cell_ext p c2
      have e3 := fun p => cell_ext p c3
      have e4 := fun p => cell_ext p c4
      have e5 := fun p => cell_ext p c5
      have e6 := fun p => cell_ext p c6
      have HW := Lib.hid (show Below w.heap.size w W by rw [hW]; repeat (first | exact Below.refl _ _ | refine Below.al ?_ _ | refine Below.dr ?_ _ | refine Below.drew ?_ | assumption | (refine Below.st ?_ (by assumption))))
      clear hW c1 c2 c3 c4 c5 c6
      have XA := Lib.hid (fun p => (HA.out.go HW.out).go (below_ext W p))
      have XB := Lib.hid (fun p => (HB.out.go HW.out).go (below_ext W p))
      have XC := Lib.hid (fun p => (HC.out.go HW.out).go (below_ext W p))
      refine wp_region_ext (by kernel_rfl) (by kernel_rfl) ?_
      repeat (go_big_quiet_step (first
        | (go_at_call 19; exact Calls.ext_of (alive08_any _))
        | (go_at_call_of 20 (#[.agg #[.slice ao la.length ca, .int .u64 wa], .agg #[.slice bo lb.length cb, .int .u64 wb]] : Array Value); exact Calls.ext_of (X1.out _ (XA.out _) (XB.out _)))
        | (go_at_call_of 20 (#[.agg #[.slice bo lb.length cb, .int .u64 wb], .agg #[.slice ao la.length ca, .int .u64 wa]] : Array Value); exact Calls.ext_of (X2.out _ (XB.out _) (XA.out _)))
        | (go_at_call_of 20 (#[.agg #[.slice bo lb.length cb, .int .u64 wb], .agg #[.slice co lc.length cc, .int .u64 wc]] : Array Value); exact Calls.ext_of (X3.out _ (XB.out _) (XC.out _)))
        | (go_at_call_of 20 (#[.agg #[.slice ao la.length ca, .int .u64 wa], .agg #[.slice co lc.length cc, .int .u64 wc]] : Array Value); exact Calls.ext_of (X4.out _ (XA.out _) (XC.out _)))))
      refine wpQuiet_nil ?_
      rintro _ ⟨pq, rfl⟩
      have HBq := Lib.hid (below_ext W pq)
      generalize ext W pq = wq at HBq ⊢
      go_wp2
      go_ret
      exact ⟨rfl, HW.out.st HBq.out⟩
    · have t2 : decide (0 < x) = false := by simp; omega
      by_cases c2 : 0 < z
      · have t3 : decide (0 < z) = true := by simp [c2]
        clear c1 c2 htr hneg
        go_enter Try.func4, Try.ntmps4
        go_wp2
        obtain ⟨W, hW, c1, c2, c3, c4, c5, c6⟩ : ∃ W, W = ((w.alloc (Obj.cells #[.slice ao la.length ca, .int .u64 wa] 33)).alloc (Obj.cells #[.slice bo lb.length cb, .int .u64 wb] 33)).alloc (Obj.cells #[.slice co lc.length cc, .int .u64 wc] 33) ∧ W.cell? ⟨w.heap.size, 0, none⟩ = some (.slice ao la.length ca) ∧ W.cell? ⟨w.heap.size, 1, none⟩ = some (.int .u64 wa) ∧ W.cell? ⟨w.heap.size + 1, 0, none⟩ = some (.slice bo lb.length cb) ∧ W.cell? ⟨w.heap.size + 1, 1, none⟩ = some (.int .u64 wb) ∧ W.cell? ⟨w.heap.size + 1 + 1, 0, none⟩ = some (.slice co lc.length cc) ∧ W.cell? ⟨w.heap.size + 1 + 1, 1, none⟩ = some (.int .u64 wc) := ⟨_, rfl, by go_simp, by go_simp, by go_simp, by go_simp, by go_simp, by go_simp⟩
        rw [← hW]
        have e1 := fun p => cell_ext p c1
        have e2 := fun p => cell_ext p c2
        have e3 := fun p => cell_ext p c3
        have e4 := fun p => cell_ext p c4
        have e5 := fun p => cell_ext p c5
        have e6 := fun p => cell_ext p c6
        have HW := Lib.hid (show Below w.heap.size w W by rw [hW]; repeat (first | exact Below.refl _ _ | refine Below.al ?_ _ | refine Below.dr ?_ _ | refine Below.drew ?_ | assumption | (refine Below.st ?_ (by assumption))))
        clear hW c1 c2 c3 c4 c5 c6
        have XA := Lib.hid (fun p => (HA.out.go HW.out).go (below_ext W p))
        have XB := Lib.hid (fun p => (HB.out.go HW.out).go (below_ext W p))
        have XC := Lib.hid (fun p => (HC.out.go HW.out).go (below_ext W p))
        refine wp_region_ext (by kernel_rfl) (by kernel_rfl) ?_
        repeat (go_big_quiet_step (first
          | (go_at_call 19; exact Calls.ext_of (alive08_any _))
          | (go_at_call_of 20 (#[.agg #[.slice ao la.length ca, .int .u64 wa], .agg #[.slice bo lb.length cb, .int .u64 wb]] : Array Value); exact Calls.ext_of (X1.out _ (XA.out _) (XB.out _)))
          | (go_at_call_of 20 (#[.agg #[.slice bo lb.length cb, .int .u64 wb], .agg #[.slice ao la.length ca, .int .u64 wa]] : Array Value); exact Calls.ext_of (X2.out _ (XB.out _) (XA.out _)))
          | (go_at_call_of 20 (#[.agg #[.slice bo lb.length cb, .int .u64 wb], .agg #[.slice co lc.length cc, .int .u64 wc]] : Array Value); exact Calls.ext_of (X3.out _ (XB.out _) (XC.out _)))
          | (go_at_call_of 20 (#[.agg #[.slice ao la.length ca, .int .u64 wa], .agg #[.slice co lc.length cc, .int .u64 wc]] : Array Value); exact Calls.ext_of (X4.out _ (XA.out _) (XC.out _)))))
        refine wpQuiet_nil ?_
        rintro _ ⟨pq, rfl⟩
        have HBq := Lib.hid (below_ext W pq)
        generalize ext W pq = wq at HBq ⊢
        go_wp2
        go_ret
        exact ⟨rfl, HW.out.st HBq.out⟩
      · have t3 : decide (0 < z) = false := by simp; omega
        have c3 : v ≤ 0 := htr (by omega) (by omega)
        have t4 : decide (v ≤ 0) = true := by simp [c3]
        clear c1 c2 c3 htr hneg
        go_enter Try.func4, Try.ntmps4
        go_wp2
        obtain ⟨W, hW, c1, c2, c3, c4, c5, c6⟩ : ∃ W, W = ((w.alloc (Obj.cells #[.slice ao la.length ca, .int .u64 wa] 33)).alloc (Obj.cells #[.slice bo lb.length cb, .int .u64 wb] 33)).alloc (Obj.cells #[.slice co lc.length cc, .int .u64 wc] 33) ∧ W.cell? ⟨w.heap.size, 0, none⟩ = some (.slice ao la.length ca) ∧ W.cell? ⟨w.heap.size, 1, none⟩ = some (.int .u64 wa) ∧ W.cell? ⟨w.heap.size + 1, 0, none⟩ = some (.slice bo lb.length cb) ∧ W.cell? ⟨w.heap.size + 1, 1, none⟩ = some (.int .u64 wb) ∧ W.cell? ⟨w.heap.size + 1 + 1, 0, none⟩ = some (.slice co lc.length cc) ∧ W.cell? ⟨w.heap.size + 1 + 1, 1, none⟩ = some (.int .u64 wc) := ⟨_, rfl, by go_simp, by go_simp, by go_simp, by go_simp, by go_simp, by go_simp⟩
        rw [← hW]
        have e1 := fun p => cell_ext p c1
        have e2 := fun p => cell_ext p c2
        have e3 := fun p => cell_ext p c3
        have e4 := fun p => cell_ext p c4
        have e5 := fun p => cell_ext p c5
        have e6 := fun p => cell_ext p c6
        have HW := Lib.hid (show Below w.heap.size w W by rw [hW]; repeat (first | exact Below.refl _ _ | refine Below.al ?_ _ | refine Below.dr ?_ _ | refine Below.drew ?_ | assumption | (refine Below.st ?_ (by assumption))))
        clear hW c1 c2 c3 c4 c5 c6
        have XA := Lib.hid (fun p => (HA.out.go HW.out).go (below_ext W p))
        have XB := Lib.hid (fun p => (HB.out.go HW.out).go (below_ext W p))
        have XC := Lib.hid (fun p => (HC.out.go HW.out).go (below_ext W p))
        refine wp_region_ext (by kernel_rfl) (by kernel_rfl) ?_
        repeat (go_big_quiet_step (first
          | (go_at_call 19; exact Calls.ext_of (alive08_any _))
          | (go_at_call_of 20 (#[.agg #[.slice ao la.length ca, .int .u64 wa], .agg #[.slice bo lb.length cb, .int .u64 wb]] : Array Value); exact Calls.ext_of (X1.out _ (XA.out _) (XB.out _)))
          | (go_at_call_of 20 (#[.agg #[.slice bo lb.length cb, .int .u64 wb], .agg #[.slice ao la.length ca, .int .u64 wa]] : Array Value); exact Calls.ext_of (X2.out _ (XB.out _) (XA.out _)))
          | (go_at_call_of 20 (#[.agg #[.slice bo lb.length cb, .int .u64 wb], .agg #[.slice co lc.length cc, .int .u64 wc]] : Array Value); exact Calls.ext_of (X3.out _ (XB.out _) (XC.out _)))
          | (go_at_call_of 20 (#[.agg #[.slice ao la.length ca, .int .u64 wa], .agg #[.slice co lc.length cc, .int .u64 wc]] : Array Value); exact Calls.ext_of (X4.out _ (XA.out _) (XC.out _)))))
        refine wpQuiet_nil ?_
        rintro _ ⟨pq, rfl⟩
        have HBq := Lib.hid (below_ext W pq)
        generalize ext W pq = wq at HBq ⊢
        go_wp2
        go_ret
        exact ⟨rfl, HW.out.st HBq.out⟩

end Go.Proofs.Ytfjplphdkfiljaa
