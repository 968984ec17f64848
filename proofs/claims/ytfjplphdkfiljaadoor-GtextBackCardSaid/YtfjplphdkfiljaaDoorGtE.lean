/-
  Walk of package gtext: the text of a graph.
-/
import Derived.Test.YtfjplphdkfiljaaDoorProg
import Derived.Test.YtfjplphdkfiljaaDoorGtD
namespace Go.Proofs.YtfjplphdkfiljaaDoor
open Go.Proofs Go.RowKit Go.Shelf Go.Sort

theorem ba_toList_append (a b : ByteArray) : (a ++ b).data.toList = a.data.toList ++ b.data.toList := by simp

set_option maxHeartbeats 4000000 in
theorem GPrint_any (g : GD) (ao : Option Addr) (cap : Nat) (w : World) (hl : g.es.length ≤ 9223372036854775807) (hc : Cel w ao (flat g.es)) (hp : Pow10 w) :
    Calls Tryd.prog 51 #[.agg #[.int .i64 g.n, .slice ao g.es.length cap]] w fun e w' => e = .returned (.tuple #[.string (printG g).1, .int .i64 (printG g).2]) ∧ Below w.heap.size w w' := by
  have HC := Lib.hid hc
  have HT := Lib.hid hp
  have HR := Lib.hid (fun W h => gRight_any g ao cap W hl h)
  clear hc hp
  by_cases h1 : rightG g = 0
  · obtain ⟨n0, n1, m0, hes⟩ := gright_of h1
    have HQ := Lib.hid (show printG g = (textK g g.es.length, 0) by unfold printG; rw [if_neg (by simp [h1])])
    have HSZ := Lib.hid (textK_size g h1)
    rw [h1] at HR
    have HI1 := Lib.hid (fun W h => Itoa_any g.n (by omega) (by omega) W h)
    have HI2 := Lib.hid (fun W h => Itoa_any (g.es.length : Int) (by omega) (by omega) W h)
    have HK0 := Lib.hid (show textK g 0 = lineT keyG [printI g.n, printI (g.es.length : Int)] from rfl)
    have HKS := Lib.hid (textK_step g)
    have HES := Lib.hid hes
    have hz0 : (lineT keyG [printI g.n, printI (g.es.length : Int)]).size ≤ 1000 := by have := textK_size g h1 0 (Nat.zero_le _); rw [HK0.out] at this; omega
    generalize printG g = r at *
    clear h1 hes
    generalize printI g.n = p1 at *
    generalize printI (g.es.length : Int) = p2 at *
    generalize textK g = T at *
    go_enter Tryd.func51, Tryd.ntmps51
    go_wp2_with fail
    obtain ⟨W, hW, c0, c1, hsW⟩ : ∃ W, W = w.alloc (Obj.cells #[.int .i64 g.n, .slice ao g.es.length cap] 52) ∧ W.cell? ⟨w.heap.size, 0, none⟩ = some (.int .i64 g.n) ∧ W.cell? ⟨w.heap.size, 1, none⟩ = some (.slice ao g.es.length cap) ∧ w.heap.size < W.heap.size := ⟨_, rfl, by go_simp, by go_simp, by simp⟩
    rw [← hW]
    have HW := Lib.hid (show Below w.heap.size w W by rw [hW]; repeat (first | exact Below.refl _ _ | refine Below.al ?_ _ | refine Below.dr ?_ _ | refine Below.drew ?_ | assumption | (refine Below.st ?_ (by assumption))))
    clear hW
    refine (HR.out _ (HC.out.go HW.out)).mono ?_
    rintro e w1 ⟨rfl, hb1⟩
    have k0 := cell_later hb1 c0
    have k1 := cell_later hb1 c1
    have HW1 := Lib.hid (HW.out.st hb1)
    have hb0s : w.heap.size < w1.heap.size := by have := hb1.size; omega
    clear c0 c1 hb1 HW hsW
    go_wp2_with fail
    obtain ⟨W2, hW2⟩ : ∃ W2, W2 = w1.alloc (Obj.cells #[.pointer none, .slice none 0 0] 104) := ⟨_, rfl⟩
    have hi := Lib.fresh_isBuilder 104 5 w1
    rw [← hW2] at hi ⊢
    have HI0 := Lib.hid hi
    have n0' := cell_later (Below.of_al w1 (Obj.cells #[.pointer none, .slice none 0 0] 104)) k0
    have n1' := cell_later (Below.of_al w1 (Obj.cells #[.pointer none, .slice none 0 0] 104)) k1
    have HW2 := Lib.hid (show Below w.heap.size w W2 by rw [hW2]; exact HW1.out.al _)
    have hb : w1.heap.size < W2.heap.size := by rw [hW2]; simp
    have hb0 : w.heap.size ≤ w1.heap.size := HW1.out.size
    rw [← hW2] at n0' n1'
    clear hi hW2 k0 k1
    generalize w1.heap.size = b at *
    have K0 := fun p => cell_ext p n0'
    have K1 := fun p => cell_ext p n1'
    have HT2 := Lib.hid (fun p => tabIs_go HT.out (HW2.out.st (below_ext W2 p)))
    refine wp_region_ext_tail1 7 (by kernel_rfl) (by kernel_rfl) (fun _ _ _ h => h) ?_
    simp only [List.take_succ_cons, List.take_zero, List.drop_succ_cons, List.drop_zero, Act.put, Act.eval, List.setIfInBounds_toArray, List.set_cons_zero, List.set_cons_succ]
    repeat (go_big_quiet_step ((first
      | (go_at_call_of 94 (Value.int IntKind.i64 g.n); exact Calls.ext_of (HI1.out _ (HT2.out _)))
      | (go_at_call 94; exact Calls.ext_of (HI2.out _ (HT2.out _))))))
    refine wpQuiet_nil ?_
    rintro _ ⟨p3, rfl⟩
    have HB3 := Lib.hid (below_ext W2 p3)
    generalize ext W2 p3 = w3 at HB3 ⊢
    clear K0 K1 HT2
    have hw3 : W2.heap.size ≤ w3.heap.size := HB3.out.size
    go_wp2_with (go_at_call 97; (refine (Print1_any keyG [p1, p2] (some ⟨w3.heap.size, 0, none⟩) 2 b b [] _ (by decide) (by simp) (by simp) hz0 (cel_new _ _ _ _) (bld_go HI0.out (HB3.out.al _)) (by decide) (by simp; omega)).mono ?_); rintro e w5 ⟨rfl, hi5, hb5⟩; have k1 : w5.cell? ⟨w.heap.size, 1, none⟩ = some (.slice ao g.es.length cap) := (hb5.cell (by show w.heap.size < b; omega)).trans (cell_later (HB3.out.al _) n1'))
    have HI5 := Lib.hid (show Lib.IsBuilder 104 5 b b (Lib.byteCells (T 0).data.toList) w5 by rw [HK0.out]; exact hi5)
    have hb5z : b ≤ w5.heap.size := by have := hb5.size; simp at this; omega
    have HW5 := Lib.hid (show Below w.heap.size w w5 from (HW2.out.st (HB3.out.al _)).trans (hb5.mono hb0))
    clear hi5 hb5 hz0 HI0 HB3 n0' n1' HI1 HI2 HK0 hw3 k1
    go_loopg [25] g.es.length (fun gq v25 wr => ∃ (k : Nat), k ≤ g.es.length ∧ g.es.length - k ≤ gq ∧ v25 = .int .i64 k ∧ Aside (Lib.IsBuilder 104 5 b b (Lib.byteCells (T k).data.toList) wr) ∧ Aside (Below w.heap.size w wr) ∧ b ≤ wr.heap.size)
    case atStart => exact ⟨0, Nat.zero_le _, by omega, rfl, HI5.out, HW5.out, hb5z⟩
    case round =>
      obtain ⟨k, hk, hg, rfl, HI, HB, hbr⟩ := hrel
      have hts := HSZ.out k hk
      by_cases hlt : k < g.es.length
      · obtain ⟨bb, o, hao, f1, f2, f3⟩ := (HC.out.go HB.out).edge hlt
        have HE := Lib.hid (HES.out _ (List.getElem_mem hlt))
        have HS := Lib.hid (HKS.out k hlt)
        subst hao
        obtain ⟨x, hxe⟩ : ∃ x, g.es[k] = x := ⟨_, rfl⟩
        rw [hxe] at f1 f2 f3 HE HS
        have HF := Lib.hid (fun W h => of_any x W (by have := HE.out; omega) (by have := HE.out; omega) (by have := HE.out; omega) h)
        have hlz : (lineT keyE (ofE x)).size ≤ 1000 := by
          unfold ofE
          rw [lineT_three_size]
          have := HE.out
          have a := printI_size_le (n := x.f) (by omega) (by omega)
          have b := printI_size_le (n := x.t) (by omega) (by omega)
          have c := printI_size_le (n := x.w) (by omega) (by omega)
          omega
        have htl : (T k).data.toList.length ≤ 4294967296 := by have : (T k).data.toList.length = (T k).size := by simp
                                                               omega
        clear hxe HR HES HKS HE HSZ
        go_wp2_with (first
          | (go_at_call 95; refine (HF.out _ (tabIs_go HT.out (by have := HB.out; repeat (first | exact Below.refl _ _ | refine Below.al ?_ _ | refine Below.dr ?_ _ | refine Below.drew ?_ | assumption | (refine Below.st ?_ (by assumption)))))).mono ?_; rintro e w5 ⟨p5, rfl, hc5, hb5⟩; (have HC5 := Lib.hid hc5; have HI5 := Lib.hid (bld_go HI.out (show Below wr.heap.size wr w5 by repeat (first | exact Below.refl _ _ | refine Below.al ?_ _ | refine Below.dr ?_ _ | refine Below.drew ?_ | assumption | (refine Below.st ?_ (by assumption))))); have hb5z : wr.heap.size ≤ w5.heap.size := (show Below wr.heap.size wr w5 by repeat (first | exact Below.refl _ _ | refine Below.al ?_ _ | refine Below.dr ?_ _ | refine Below.drew ?_ | assumption | (refine Below.st ?_ (by assumption)))).size; have HB5 := Lib.hid (show Below w.heap.size w w5 by have := HB.out; repeat (first | exact Below.refl _ _ | refine Below.al ?_ _ | refine Below.dr ?_ _ | refine Below.drew ?_ | assumption | (refine Below.st ?_ (by assumption)))); clear hc5 hb5))
          | (go_at_call 97; refine (Print1_any keyE (ofE x) (some ⟨p5, 0, none⟩) 3 b b (T k).data.toList _ (by decide) (by simp [ofE]) (by simp [ofE]) hlz HC5.out HI5.out htl (by omega)).mono ?_; rintro e w6 ⟨rfl, hi6, hb6⟩; (have HI6 := Lib.hid hi6; have HB6 := Lib.hid (HB5.out.trans (hb6.mono hb0)); have hb6z := hb6.size; clear hi6 hb6)))
        go_roundg (g.es.length - (k + 1))
        case measure => omega
        case rel => exact ⟨k + 1, by omega, by omega, by go_num, by rw [HS.out, ba_toList_append]; exact HI6.out, HB6.out, by omega⟩
      · obtain rfl : k = g.es.length := by omega
        have HS := Lib.hid (fun W h1 h2 => Tryd.Builder_String_any b b (T g.es.length).data.toList W h1 h2)
        go_wp2_with (go_at_call 100; refine (HS.out _ HI.out hbr).mono ?_; rintro e w6 ⟨rfl, hb6⟩)
        go_ret2
        exact ⟨by rw [HQ.out]; rfl, HB.out.trans (hb6.mono hb0)⟩
  · have HQ := Lib.hid (show printG g = (ByteArray.empty, 1) by unfold printG; rw [if_pos h1])
    have hne : (rightG g != 0) = true := by simpa using h1
    generalize rightG g = q at *
    generalize printG g = r at *
    go_enter Tryd.func51, Tryd.ntmps51
    go_wp2_with fail
    obtain ⟨W, hW, c0, c1, hsW⟩ : ∃ W, W = w.alloc (Obj.cells #[.int .i64 g.n, .slice ao g.es.length cap] 52) ∧ W.cell? ⟨w.heap.size, 0, none⟩ = some (.int .i64 g.n) ∧ W.cell? ⟨w.heap.size, 1, none⟩ = some (.slice ao g.es.length cap) ∧ w.heap.size < W.heap.size := ⟨_, rfl, by go_simp, by go_simp, by simp⟩
    rw [← hW]
    have HW := Lib.hid (show Below w.heap.size w W by rw [hW]; repeat (first | exact Below.refl _ _ | refine Below.al ?_ _ | refine Below.dr ?_ _ | refine Below.drew ?_ | assumption | (refine Below.st ?_ (by assumption))))
    clear hW
    refine (HR.out _ (HC.out.go HW.out)).mono ?_
    rintro e w1 ⟨rfl, hb1⟩
    go_wp2
    go_ret2
    exact ⟨by rw [HQ.out]; rfl, HW.out.st hb1⟩

end Go.Proofs.YtfjplphdkfiljaaDoor
