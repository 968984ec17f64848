/-
  Walk of the reference of package gtext: the text of a graph.
-/
import Derived.Test.YtfjplphdkfiljaaDoorProg
import Derived.Test.YtfjplphdkfiljaaDoorGtE
namespace Go.Proofs.YtfjplphdkfiljaaDoor
open Go.Proofs Go.RowKit Go.Shelf Go.Sort

set_option maxHeartbeats 4000000 in
theorem refGPrint_any (g : GD) (ao : Option Addr) (cap : Nat) (w : World) (hl : g.es.length ≤ 9223372036854775807) (hc : Cel w ao (flat g.es)) :
    Calls Tryd.prog 52 #[.agg #[.int .i64 g.n, .slice ao g.es.length cap]] w fun e w' => e = .returned (.tuple #[.string (printG g).1, .int .i64 (printG g).2]) ∧ Below w.heap.size w w' := by
  have HC := Lib.hid hc
  have HR := Lib.hid (fun W h => refRightG_any g ao cap W hl h)
  clear hc
  by_cases h1 : rightG g = 0
  · obtain ⟨n0, n1, m0, hes⟩ := gright_of h1
    have HQ := Lib.hid (show printG g = (textK g g.es.length, 0) by unfold printG; rw [if_neg (by simp [h1])])
    have HSZ := Lib.hid (textK_size g h1)
    rw [h1] at HR
    have HI1 := Lib.hid (fun W => refnumber_any g.n (by omega) (by omega) W)
    have HI2 := Lib.hid (fun W => refnumber_any (g.es.length : Int) (by omega) (by omega) W)
    have HK0 := Lib.hid (show textK g 0 = ((((⟨#[103, 114, 97, 112, 104, 32]⟩ : ByteArray) ++ printI g.n) ++ ⟨#[32]⟩) ++ printI (g.es.length : Int)) ++ ⟨#[10]⟩ from lineT_two _ _)
    have HKS := Lib.hid (textK_step g)
    have HES := Lib.hid hes
    have z1 := printI_size_le (n := g.n) (by omega) (by omega)
    have z2 := printI_size_le (n := (g.es.length : Int)) (by omega) (by omega)
    generalize printG g = r at *
    clear h1 hes
    generalize printI g.n = p1 at *
    generalize printI (g.es.length : Int) = p2 at *
    generalize textK g = T at *
    go_enter Tryd.func52, Tryd.ntmps52
    go_wp2_with fail
    obtain ⟨W, hW, c0, c1, hsW⟩ : ∃ W, W = w.alloc (Obj.cells #[.int .i64 g.n, .slice ao g.es.length cap] 52) ∧ W.cell? ⟨w.heap.size, 0, none⟩ = some (.int .i64 g.n) ∧ W.cell? ⟨w.heap.size, 1, none⟩ = some (.slice ao g.es.length cap) ∧ w.heap.size < W.heap.size := ⟨_, rfl, by go_simp, by go_simp, by simp⟩
    rw [← hW]
    have HW := Lib.hid (show Below w.heap.size w W by rw [hW]; repeat (first | exact Below.refl _ _ | refine Below.al ?_ _ | refine Below.dr ?_ _ | refine Below.drew ?_ | assumption | (refine Below.st ?_ (by assumption))))
    clear hW
    refine (HR.out _ (HC.out.go HW.out)).mono ?_
    rintro e w1 ⟨rfl, hb1⟩
    have k0 := cell_later hb1 c0
    have k1 := cell_later hb1 c1
    have HW1 := Lib.hid (HW.out.st hb1)
    clear c0 c1 hb1 HW hsW
    go_wp2_with fail
    have K0 := fun p => cell_ext p k0
    have K1 := fun p => cell_ext p k1
    refine wp_region_ext (by kernel_rfl) (by kernel_rfl) ?_
    repeat (go_big_quiet_step ((first
      | (go_at_call_of 96 (Value.int IntKind.i64 g.n); exact Calls.ext_of (HI1.out _))
      | (go_at_call 96; exact Calls.ext_of (HI2.out _)))))
    refine wpQuiet_nil ?_
    rintro _ ⟨p3, rfl⟩
    have HB3 := Lib.hid (below_ext w1 p3)
    generalize ext w1 p3 = w3 at HB3 ⊢
    clear K0 K1
    go_wp2
    have k1' := cell_later HB3.out k1
    rw [← HK0.out]
    clear k0 k1 HI1 HI2 HK0
    have HW3 := Lib.hid (HW1.out.st HB3.out)
    clear HB3
    go_loopg [4, 5] g.es.length (fun gq v4 v5 wr => ∃ (k : Nat), k ≤ g.es.length ∧ g.es.length - k ≤ gq ∧ v5 = .int .i64 k ∧ v4 = .string (T k) ∧ Aside (Below w3.heap.size w3 wr))
    case atStart => exact ⟨0, Nat.zero_le _, by omega, rfl, rfl, Below.refl _ _⟩
    case round =>
      obtain ⟨k, hk, hg, rfl, rfl, HB⟩ := hrel
      have r1 := cell_later HB.out k1'
      have hts := HSZ.out k hk
      by_cases hlt : k < g.es.length
      · obtain ⟨b, o, hao, f1, f2, f3⟩ := (HC.out.go (HW3.out.st HB.out)).edge hlt
        have HE := Lib.hid (HES.out _ (List.getElem_mem hlt))
        have HS := Lib.hid (HKS.out k hlt)
        subst hao
        obtain ⟨x, hxe⟩ : ∃ x, g.es[k] = x := ⟨_, rfl⟩
        rw [hxe] at f1 f2 f3 HE HS
        have HF1 := Lib.hid (fun W => refnumber_any x.f (by have := HE.out; omega) (by have := HE.out; omega) W)
        have HF2 := Lib.hid (fun W => refnumber_any x.t (by have := HE.out; omega) (by have := HE.out; omega) W)
        have HF3 := Lib.hid (fun W => refPrint_any x.w (by have := HE.out; omega) (by have := HE.out; omega) W)
        have za := printI_size_le (n := x.f) (by have := HE.out; omega) (by have := HE.out; omega)
        have zb := printI_size_le (n := x.t) (by have := HE.out; omega) (by have := HE.out; omega)
        have zc := printI_size_le (n := x.w) (by have := HE.out; omega) (by have := HE.out; omega)
        have HX := Lib.hid (show T (k + 1) = ((((((T k ++ ⟨#[101, 32]⟩) ++ printI x.f) ++ ⟨#[32]⟩) ++ printI x.t) ++ ⟨#[32]⟩) ++ printI x.w) ++ ⟨#[10]⟩ by rw [HS.out]; exact lineT_three _ _ _ _)
        clear hxe HR HES HKS HE HS HSZ
        obtain ⟨xf, xt, xw⟩ := x
        simp only at f1 f2 f3 HF1 HF2 HF3 HX za zb zc
        generalize printI xf = q1 at *
        generalize printI xt = q2 at *
        generalize printI xw = q4 at *
        obtain ⟨T1, hT1⟩ : ∃ T1, T (k + 1) = T1 := ⟨_, rfl⟩
        rw [hT1] at HX
        generalize T k = T0 at *
        have R1 := fun p => cell_ext p r1
        have F1 := fun p => cell_ext p f1
        have F2 := fun p => cell_ext p f2
        have F3 := fun p => cell_ext p f3
        go_wp2_with fail
        refine wp_region_ext (by kernel_rfl) (by kernel_rfl) ?_
        repeat (go_big_quiet_step ((first
          | (go_at_call_of 96 (Value.int IntKind.i64 xf); exact Calls.ext_of (HF1.out _))
          | (go_at_call_of 96 (Value.int IntKind.i64 xt); exact Calls.ext_of (HF2.out _))
          | (go_at_call 27; exact Calls.ext_of (HF3.out _)))))
        refine wpQuiet_nil ?_
        rintro _ ⟨p5, rfl⟩
        have HB5 := Lib.hid (below_ext wr p5)
        generalize ext wr p5 = w5 at HB5 ⊢
        clear R1 F1 F2 F3
        go_wp2
        go_roundg (g.es.length - (k + 1))
        case measure => omega
        case rel => exact ⟨k + 1, by omega, by omega, by go_num, by rw [hT1, HX.out], HB.out.st HB5.out⟩
      · obtain rfl : k = g.es.length := by omega
        go_wp2
        go_ret2
        exact ⟨by rw [HQ.out]; rfl, HW3.out.st HB.out⟩
  · have HQ := Lib.hid (show printG g = (ByteArray.empty, 1) by unfold printG; rw [if_pos h1])
    have hne : (rightG g != 0) = true := by simpa using h1
    generalize rightG g = q at *
    generalize printG g = r at *
    go_enter Tryd.func52, Tryd.ntmps52
    go_wp2_with fail
    obtain ⟨W, hW, c0, c1, hsW⟩ : ∃ W, W = w.alloc (Obj.cells #[.int .i64 g.n, .slice ao g.es.length cap] 52) ∧ W.cell? ⟨w.heap.size, 0, none⟩ = some (.int .i64 g.n) ∧ W.cell? ⟨w.heap.size, 1, none⟩ = some (.slice ao g.es.length cap) ∧ w.heap.size < W.heap.size := ⟨_, rfl, by go_simp, by go_simp, by simp⟩
    rw [← hW]
    have HW := Lib.hid (show Below w.heap.size w W by rw [hW]; repeat (first | exact Below.refl _ _ | refine Below.al ?_ _ | refine Below.dr ?_ _ | refine Below.drew ?_ | assumption | (refine Below.st ?_ (by assumption))))
    clear hW
    refine (HR.out _ (HC.out.go HW.out)).mono ?_
    rintro e w1 ⟨rfl, hb1⟩
    go_wp2
    go_ret2
    exact ⟨by rw [HQ.out]; rfl, HW.out.st hb1⟩

end Go.Proofs.YtfjplphdkfiljaaDoor
