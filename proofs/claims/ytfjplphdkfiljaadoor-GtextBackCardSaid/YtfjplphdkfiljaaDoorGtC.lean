/-
  Walks of the references of package gtext: the words of a graph.
-/
import Derived.Test.YtfjplphdkfiljaaDoorProg
import Derived.Test.YtfjplphdkfiljaaDoorGtA
import Derived.Test.YtfjplphdkfiljaaDoorGraphRD
import Derived.Test.YtfjplphdkfiljaaDoorQTail
namespace Go.Proofs.YtfjplphdkfiljaaDoor
open Go.Proofs Go.RowKit Go.Shelf Go.Sort

theorem below_app {w1 wr w5 w6 : World} (h1 : Below w1.heap.size w1 wr) (h2 : Below wr.heap.size wr w5) (o : Obj) (h3 : Below w1.heap.size (w5.alloc o) w6) : Below w1.heap.size wr w6 := by
  have h4 : Below w1.heap.size wr w5 := h2.mono h1.size
  exact (h4.trans ((Below.of_al w5 o).mono (by have := h1.size; have := h2.size; omega))).trans h3

set_option maxHeartbeats 4000000 in
theorem refGWords_any (g : GD) (ao : Option Addr) (cap : Nat) (w : World) (hl : g.es.length ≤ 9223372036854775807) (hc : Cel w ao (flat g.es)) :
    Calls Tryd.prog 50 #[.agg #[.int .i64 g.n, .slice ao g.es.length cap]] w (GWordsPost w (wordsG g)) := by
  have HC := Lib.hid hc
  have HR := Lib.hid (fun W h => refRightG_any g ao cap W hl h)
  clear hc
  by_cases h1 : rightG g = 0
  · obtain ⟨n0, n1, m0, hes⟩ := gright_of h1
    by_cases h2 : 16384 < 2 + 3 * g.es.length
    · have HQ := Lib.hid (show wordsG g = ([], 5) by unfold wordsG; rw [if_neg (by simp [h1]), if_pos h2])
      rw [h1] at HR
      generalize wordsG g = r at *
      clear h1 hes
      go_enter Tryd.func50, Tryd.ntmps50
      go_wp2_with fail
      obtain ⟨W, hW, c0, c1, hsW⟩ : ∃ W, W = w.alloc (Obj.cells #[.int .i64 g.n, .slice ao g.es.length cap] 52) ∧ W.cell? ⟨w.heap.size, 0, none⟩ = some (.int .i64 g.n) ∧ W.cell? ⟨w.heap.size, 1, none⟩ = some (.slice ao g.es.length cap) ∧ w.heap.size < W.heap.size := ⟨_, rfl, by go_simp, by go_simp, by simp⟩
      rw [← hW]
      have HW := Lib.hid (show Below w.heap.size w W by rw [hW]; repeat (first | exact Below.refl _ _ | refine Below.al ?_ _ | refine Below.dr ?_ _ | refine Below.drew ?_ | assumption | (refine Below.st ?_ (by assumption))))
      clear hW
      refine (HR.out _ (HC.out.go HW.out)).mono ?_
      rintro e w1 ⟨rfl, hb1⟩
      have m0' := cell_later hb1 c0
      have m1' := cell_later hb1 c1
      go_wp2
      go_ret2
      exact ⟨none, 0, by rw [HQ.out]; rfl, by rw [HQ.out]; exact Cel.nil _ _, HW.out.st hb1⟩
    · have HQ := Lib.hid (show wordsG g = (wordsK g g.es.length, 0) by unfold wordsG; rw [if_neg (by simp [h1]), if_neg h2])
      rw [h1] at HR
      have HI1 := Lib.hid (fun W => refnumber_any g.n (by omega) (by omega) W)
      have HI2 := Lib.hid (fun W => refnumber_any (g.es.length : Int) (by omega) (by omega) W)
      have HK0 := Lib.hid (show (wordsK g 0).map encS = [.string (printI g.n), .string (printI (g.es.length : Int))] by rw [wordsK_zero]; rfl)
      have HKS := Lib.hid (wordsK_step g)
      have HKL := Lib.hid (wordsK_length g)
      have HES := Lib.hid hes
      generalize wordsG g = r at *
      clear h1 hes
      generalize printI g.n = p1 at *
      generalize printI (g.es.length : Int) = p2 at *
      go_enter Tryd.func50, Tryd.ntmps50
      go_wp2_with fail
      obtain ⟨W, hW, c0, c1, hsW⟩ : ∃ W, W = w.alloc (Obj.cells #[.int .i64 g.n, .slice ao g.es.length cap] 52) ∧ W.cell? ⟨w.heap.size, 0, none⟩ = some (.int .i64 g.n) ∧ W.cell? ⟨w.heap.size, 1, none⟩ = some (.slice ao g.es.length cap) ∧ w.heap.size < W.heap.size := ⟨_, rfl, by go_simp, by go_simp, by simp⟩
      rw [← hW]
      have HW := Lib.hid (show Below w.heap.size w W by rw [hW]; repeat (first | exact Below.refl _ _ | refine Below.al ?_ _ | refine Below.dr ?_ _ | refine Below.drew ?_ | assumption | (refine Below.st ?_ (by assumption))))
      clear hW
      refine (HR.out _ (HC.out.go HW.out)).mono ?_
      rintro e w1 ⟨rfl, hb1⟩
      have k0 := cell_later hb1 c0
      have k1 := cell_later hb1 c1
      have HW1 := Lib.hid (HW.out.st hb1)
      clear c0 c1 hb1 HW hsW
      go_wp2_with fail
      have K0 := fun p => cell_ext p k0
      have K1 := fun p => cell_ext p k1
      refine wp_region_ext_tail 7 (by kernel_rfl) (by kernel_rfl) ?_
      simp only [List.take_succ_cons, List.take_zero, List.drop_succ_cons, List.drop_zero]
      repeat (go_big_quiet_step ((first
        | (go_at_call_of 96 (Value.int IntKind.i64 g.n); exact Calls.ext_of (HI1.out _))
        | (go_at_call 96; exact Calls.ext_of (HI2.out _)))))
      refine wpQuiet_nil ?_
      rintro _ ⟨p3, rfl⟩
      have HB3 := Lib.hid (below_ext w1 p3)
      generalize ext w1 p3 = w3 at HB3 ⊢
      clear K0 K1
      go_wp2_with fail
      obtain ⟨W4, hW4⟩ : ∃ W4, W4 = w3.alloc (Obj.cells #[Value.string p1, Value.string p2] 9) := ⟨_, rfl⟩
      have HO4 := Lib.hid (show W4.ownsRow w1.heap.size 9 1 (.slice (some ⟨w3.heap.size, 0, none⟩) 2 2) 2 ((wordsK g 0).map encS) by rw [HK0.out, hW4]; exact World.ownsRow_lit (base := w1.heap.size) (e := 9) (size := 1) w3 #[.string p1, .string p2] 2 (by have b := HB3.out.size; omega) (by decide) rfl)
      rw [← hW4]
      have HB4 := Lib.hid (show Below w1.heap.size w1 W4 by rw [hW4]; exact HB3.out.al _)
      clear hW4 HB3 HI1 HI2 HK0
      generalize w3.heap.size = q3 at *
      go_loopg [4, 5] g.es.length (fun gq v4 v5 wr => ∃ (k a c : Nat), k ≤ g.es.length ∧ g.es.length - k ≤ gq ∧ v5 = .int .i64 k ∧ v4 = .slice (some ⟨a, 0, none⟩) (2 + 3 * k) c ∧ Aside (wr.ownsRow w1.heap.size 9 1 (.slice (some ⟨a, 0, none⟩) (2 + 3 * k) c) (2 + 3 * k) ((wordsK g k).map encS)) ∧ Aside (Below w1.heap.size w1 wr))
      case atStart => exact ⟨0, q3, 2, Nat.zero_le _, by omega, rfl, rfl, HO4.out, HB4.out⟩
      case round =>
        obtain ⟨k, a, c, hk, hg, rfl, rfl, HO, HB⟩ := hrel
        have r1 := cell_later HB.out k1
        by_cases hlt : k < g.es.length
        · obtain ⟨b, o, hao, f1, f2, f3⟩ := (HC.out.go (HW1.out.st HB.out)).edge hlt
          have HE := Lib.hid (HES.out _ (List.getElem_mem hlt))
          have HS := Lib.hid (HKS.out k hlt)
          subst hao
          obtain ⟨x, hxe⟩ : ∃ x, g.es[k] = x := ⟨_, rfl⟩
          rw [hxe] at f1 f2 f3 HE HS
          have HF1 := Lib.hid (fun W => refnumber_any x.f (by have := HE.out; omega) (by have := HE.out; omega) W)
          have HF2 := Lib.hid (fun W => refnumber_any x.t (by have := HE.out; omega) (by have := HE.out; omega) W)
          have HF3 := Lib.hid (fun W => refPrint_any x.w (by have := HE.out; omega) (by have := HE.out; omega) W)
          have HX := Lib.hid (show (ofE x).map encS = [.string (printI x.f), .string (printI x.t), .string (printI x.w)] from rfl)
          clear hxe HR HES HKS HE
          obtain ⟨xf, xt, xw⟩ := x
          simp only at f1 f2 f3 HF1 HF2 HF3 HX
          generalize ofE ⟨xf, xt, xw⟩ = L at *
          generalize printI xf = q1 at *
          generalize printI xt = q2 at *
          generalize printI xw = q4 at *
          have R1 := fun p => cell_ext p r1
          have F1 := fun p => cell_ext p f1
          have F2 := fun p => cell_ext p f2
          have F3 := fun p => cell_ext p f3
          go_wp2_with fail
          refine wp_region_ext_tail1 21 (by kernel_rfl) (by kernel_rfl) (fun _ _ _ h => h) ?_
          simp only [List.take_succ_cons, List.take_zero, List.drop_succ_cons, List.drop_zero, Act.put, Act.eval, List.setIfInBounds_toArray, List.set_cons_zero, List.set_cons_succ]
          repeat (go_big_quiet_step ((first
            | (go_at_call_of 96 (Value.int IntKind.i64 xf); exact Calls.ext_of (HF1.out _))
            | (go_at_call_of 96 (Value.int IntKind.i64 xt); exact Calls.ext_of (HF2.out _))
            | (go_at_call 27; exact Calls.ext_of (HF3.out _)))))
          refine wpQuiet_nil ?_
          rintro _ ⟨p5, rfl⟩
          have HB5 := Lib.hid (below_ext wr p5)
          generalize ext wr p5 = w5 at HB5 ⊢
          clear R1 F1 F2 F3
          have HO5 := Lib.hid (owns_goD HO.out HB5.out)
          go_wp2_with (at_builtin; go_must ((with_reducible refine wpList_app w1.heap.size 9 _ 1 16 elem_str Tryd.underlying54 (.slice (some ⟨a, 0, none⟩) (2 + 3 * k) c) (2 + 3 * k) _ ⟨w5.heap.size, 0, none⟩ 3 3 (L.map encS) ?_ ?_ (World.ownsRow.alloc HO5.out _) (cel_news (by rw [HX.out]; exact cel_new _ _ _ _)) (one_strs _) ⟨by rw [HX.out]; simp, by decide, by omega, by omega, by have := HB.out.size; have := HB5.out.size; simp; omega⟩ ?_); (· rfl); (· rfl); intro g6 cap6 w6 hown hgrow hbl hat hlt6; (have HO6 := Lib.hid hown; have HB6 := Lib.hid (below_app HB.out HB5.out _ hbl); clear hown hgrow hbl hat)))
          go_roundg (g.es.length - (k + 1))
          case measure => omega
          case rel => exact ⟨k + 1, g6, cap6, by omega, by omega, by go_num, rfl, by rw [HS.out, List.map_append]; exact HO6.out, HB.out.trans HB6.out⟩
        · obtain rfl : k = g.es.length := by omega
          obtain ⟨ao7, cap7, e7, hc7⟩ := Cel.of_owns HO.out
          cases e7
          have HL := Lib.hid (HKL.out _ (Nat.le_refl _))
          have HC7 := Lib.hid hc7
          clear hc7
          go_wp2
          go_ret2
          exact ⟨_, c, by rw [HQ.out]; show _ = Ending.returned (.tuple #[.slice _ (wordsK g g.es.length).length c, .int .i64 0]); rw [HL.out]; rfl, by rw [HQ.out]; exact HC7.out, HW1.out.st HB.out⟩
  · have HQ := Lib.hid (show wordsG g = ([], 1) by unfold wordsG; rw [if_pos h1])
    have hne : (rightG g != 0) = true := by simpa using h1
    generalize rightG g = q at *
    generalize wordsG g = r at *
    go_enter Tryd.func50, Tryd.ntmps50
    go_wp2_with fail
    obtain ⟨W, hW, c0, c1, hsW⟩ : ∃ W, W = w.alloc (Obj.cells #[.int .i64 g.n, .slice ao g.es.length cap] 52) ∧ W.cell? ⟨w.heap.size, 0, none⟩ = some (.int .i64 g.n) ∧ W.cell? ⟨w.heap.size, 1, none⟩ = some (.slice ao g.es.length cap) ∧ w.heap.size < W.heap.size := ⟨_, rfl, by go_simp, by go_simp, by simp⟩
    rw [← hW]
    have HW := Lib.hid (show Below w.heap.size w W by rw [hW]; repeat (first | exact Below.refl _ _ | refine Below.al ?_ _ | refine Below.dr ?_ _ | refine Below.drew ?_ | assumption | (refine Below.st ?_ (by assumption))))
    clear hW
    refine (HR.out _ (HC.out.go HW.out)).mono ?_
    rintro e w1 ⟨rfl, hb1⟩
    go_wp2
    go_ret2
    exact ⟨none, 0, by rw [HQ.out]; rfl, by rw [HQ.out]; exact Cel.nil _ _, HW.out.st hb1⟩

end Go.Proofs.YtfjplphdkfiljaaDoor
