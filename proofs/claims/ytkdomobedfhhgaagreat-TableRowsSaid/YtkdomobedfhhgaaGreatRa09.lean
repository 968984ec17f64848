/-
  Walks: the library's slices.Max at weights, table.Center; the reference's Row, Center and Tour (law 25).
  Walk: the reference's Near (law 25).
-/
import Derived.Test.YtkdomobedfhhgaaGreatProg
import Derived.Test.YtkdomobedfhhgaaGreatRa07
import Derived.Test.YtkdomobedfhhgaaGreatRa08
import Derived.Deep.CutRange
set_option linter.unusedVariables false
set_option linter.unusedSimpArgs false
set_option linter.unnecessarySimpa false
section
namespace Go.Proofs.YtkdomobedfhhgaaGreat
open Go Go.Proofs Go.RowKit Go.Shelf Go.Proofs.YtkdomobedfhhgaaGreat.Hp Go.Proofs.YtkdomobedfhhgaaGreat.Ch

theorem elem_u64q : Elem Tryz.prog 34 (.int .u64 0) 1 8 := ⟨by kernel_rfl, rfl, by decide⟩
/-- the reference's row -/
def RowOut (es : List EdgeD) (s : Int) (tl : List Int) (w : World) (e : Ending) (w' : World) : Prop :=
  ∃ ao cap, e = .returned (.slice ao tl.length cap) ∧ Cel w' ao ((tl.map (distV es s)).map encW) ∧ (∀ t ∈ tl, FarV (arcG es) s t (distV es s t)) ∧ Below w.heap.size w w'
set_option maxRecDepth 100000 in
set_option maxHeartbeats 2000000 in
theorem refRow_any (n s : Nat) (es : List EdgeD) (ao : Option Addr) (cap : Nat) (lo : Option Addr) (lc : Nat) (tl : List Int) (w : World) (hg : rightG ⟨(n : Int), es⟩ = 0) (hn : n ≤ 12) (hes : es.length ≤ 40) (hs : s < n) (hc : Cel w ao (flat es)) (hlc : Cel w lo (tl.map encI)) (htl : tl.length ≤ 60) (hno : ∀ t ∈ tl, nodeN n t)
    (hA : ∀ u v w, arcG es u v w → 1 ≤ w) :
    Calls Tryz.prog 62 #[.agg #[.int .i64 (n : Int), .slice ao es.length cap], .int .i64 (s : Int), .slice lo tl.length lc] w (RowOut es (s : Int) tl w) := by
  obtain ⟨W, hW⟩ : ∃ W, W = w.alloc (Obj.cells #[.int .i64 (n : Int), .slice ao es.length cap] 24) := ⟨_, rfl⟩
  have hbw : Below w.heap.size w W := by rw [hW]; exact Below.of_al _ _
  have c0 : W.cell? ⟨w.heap.size, 0, none⟩ = some (.int .i64 (n : Int)) := by rw [hW]; go_simp
  have c1 : W.cell? ⟨w.heap.size, 1, none⟩ = some (.slice ao es.length cap) := by rw [hW]; go_simp
  have HW := Lib.hid hW
  have HB := Lib.hid hbw
  have HAL := Lib.hid (refAll_any n s es ao none cap 0 false [] W hg hn hes hs (by simp) (hc.go hbw) (Cel.nil _ _))
  have HLC := Lib.hid (hlc.go hbw)
  have HNO := Lib.hid hno
  have HAA := Lib.hid hA
  have htl2 : (tl.length : Int) ≤ 60 := by omega
  have hn2 : (n : Int) ≤ 12 := by omega
  have HTL := Lib.hid htl
  unfold AllPost at HAL
  clear hW hbw hc hlc hno hA htl
  go_enter Tryz.func62, Tryz.ntmps62
  go_upto_region 1 with (fail)
  rw [← HW.out]
  go_upto_region 2 with (go_at_call 74; refine HAL.out.mono ?_; rintro e w1 ⟨b, d, rfl, k1, k2, k3, k4⟩; (have HC1 := Lib.hid k1); (have HB1 := Lib.hid k2); (have HI1 := Lib.hid k4); clear k1 k2 k3 k4)
  have HFV := Lib.hid (fun (v : Int) (hv : nodeN n v) => (AllIs.far (es := es) (n := n) (s := (s : Int)) (back := false) (fun u v w h => HAA.out u v w h) HI1.out hv : FarV (arcG es) (s : Int) v (gD d v)))
  have hdl : d.length = n := HI1.out.1
  have HDL := Lib.hid hdl
  have HR0 := Lib.hid (World.ownsRow_nil w1 w1.heap.size 34 1)
  clear c0 c1 hdl
  go_wp2
  go_loopg [9, 8] tl.length (fun gg v9 v8 wr => ∃ k : Nat, k ≤ tl.length ∧ tl.length - k ≤ gg ∧ v9 = .int .i64 (k : Int) ∧ Aside (wr.ownsRow w1.heap.size 34 1 v8 k (((tl.take k).map (distV es (s : Int))).map encW)) ∧ Aside (Below w1.heap.size w1 wr))
  case atStart => exact ⟨0, Nat.zero_le _, by omega, rfl, HR0.out, Below.refl _ _⟩
  case round =>
    obtain ⟨k, hk, hgg, rfl, HR, HBW⟩ := hrel
    by_cases hlt : k < tl.length
    · have hlt3 : (k : Int) < (tl.length : Int) := by omega
      have hk0 : (0 : Int) ≤ (k : Int) := by omega
      obtain ⟨lb, lof, hao, y0⟩ := (HLC.out.go (HB1.out.st HBW.out)).at hlt
      subst hao
      have hnd := HNO.out _ (List.getElem_mem hlt)
      obtain ⟨t, htt⟩ : ∃ t : Nat, tl[k] = (t : Int) := ⟨tl[k].toNat, by have := hnd.1; omega⟩
      rw [htt] at y0 hnd
      have htn : t < n := by have := hnd.2; omega
      have htn2 : (t : Int) < (n : Int) := by omega
      have ht0 : (0 : Int) ≤ (t : Int) := by omega
      have hq := (HFV.out _ hnd).eqD
      have hdt := (HC1.out.go HBW.out) t (.int .u64 (distV es (s : Int) (t : Int))) (by
        rw [List.getElem?_map, ← hq]
        unfold gD
        simp [List.getD, show t < d.length by rw [HDL.out]; exact htn, encW])
      obtain ⟨_, _, e, z0⟩ := hdt
      cases e
      rw [Nat.zero_add] at z0
      have HTK := Lib.hid (show ((tl.take (k + 1)).map (distV es (s : Int))).map encW = ((tl.take k).map (distV es (s : Int))).map encW ++ [.int .u64 (distV es (s : Int) (t : Int))] by
        rw [List.take_succ_eq_append_getElem hlt, List.map_append, List.map_append, htt]; rfl)
      have hz := HBW.out.size
      have HZ := Lib.hid (And.intro hk hz)
      clear hnd hq htt hz
      generalize distV es (s : Int) (t : Int) = x at *
      go_upto_region 5 with (at_builtin; go_must (refine wpList_app w1.heap.size 34 _ 1 8 elem_u64q Tryz.underlying41 u8 k _ ⟨wr.heap.size, 0, none⟩ 1 1 [.int .u64 x] rfl rfl (World.ownsRow.alloc HR.out _) (cell_one_new _ _ _) (one_cells rfl) ⟨rfl, by decide, (by have := HZ.out.1; omega), (by have := HZ.out.1; omega), (by have := HZ.out.2; simp; omega)⟩ ?_); intro g7 cap7 w7 hown hgr hbl hat hlt7; (have HR7 := Lib.hid hown); (have HB7 := Lib.hid ((HBW.out.al _).trans hbl)); clear hown hgr hbl hat hlt7)
      go_wp2
      go_roundg (tl.length - (k + 1))
      case measure => omega
      case rel => exact ⟨k + 1, by omega, Nat.le_refl _, by go_num, by rw [HTK.out]; exact HR7.out, HB7.out⟩
    · obtain rfl : k = tl.length := by omega
      obtain ⟨ao8, cap8, e8, hc8⟩ := Cel.of_owns HR.out
      subst e8
      rw [List.take_length] at hc8
      have HC8 := Lib.hid hc8
      go_wp2
      go_ret
      exact ⟨ao8, cap8, rfl, HC8.out, (fun t ht => by have h := HFV.out _ (HNO.out t ht); have h2 := h.eqD; rw [h2] at h; exact h), HB.out.st (HB1.out.st HBW.out)⟩

end Go.Proofs.YtkdomobedfhhgaaGreat
end

section
namespace Go.Proofs.YtkdomobedfhhgaaGreat
open Go Go.Proofs Go.RowKit Go.Shelf Go.Proofs.YtkdomobedfhhgaaGreat.Hp Go.Proofs.YtkdomobedfhhgaaGreat.Ch Go.Proofs.YtkdomobedfhhgaaGreat.Ns

def RefNearPost (L : List Int) (nn : Int) (w : World) (e : Ending) (w' : World) : Prop :=
  ∃ (ao : Option Addr) (k cap : Nat), (k : Int) = min (max nn 0) (L.length : Int) ∧ e = .returned (.slice ao k cap) ∧ Cel w' ao ((L.take k).map encI) ∧ Below w.heap.size w w'
theorem mem_take_succ {l : List Int} {j : Nat} {x : Int} (h : j < l.length) : decide (x ∈ l.take (j + 1)) = (decide (x ∈ l.take j) || (l[j] == x)) := by
  rw [List.take_succ_eq_append_getElem h, Bool.eq_iff_iff, Bool.or_eq_true, decide_eq_true_eq, decide_eq_true_eq, beq_iff_eq, List.mem_append, List.mem_singleton]
  exact ⟨fun h => h.imp_right Eq.symm, fun h => h.imp_right Eq.symm⟩

set_option maxRecDepth 100000 in
set_option maxHeartbeats 4000000 in
theorem refNear_any (n s : Nat) (es : List EdgeD) (ao : Option Addr) (cap : Nat) (lo : Option Addr) (lc : Nat) (tl : List Int) (nn : Int) (w : World) (hg : rightG ⟨(n : Int), es⟩ = 0) (hn : n ≤ 12) (hes : es.length ≤ 40) (hs : s < n) (hc : Cel w ao (flat es)) (hlc : Cel w lo (tl.map encI)) (htl : tl.length ≤ 20) (hno : ∀ t ∈ tl, nodeN n t)
    (hA : ∀ u v w, arcG es u v w → 1 ≤ w) (L : List Int) (hL : SortedP (tl.map (distV es (s : Int))) L) :
    Calls Tryz.prog 64 #[.agg #[.int .i64 (n : Int), .slice ao es.length cap], .int .i64 (s : Int), .slice lo tl.length lc, .int .i64 nn] w (RefNearPost L nn w) := by
  obtain ⟨W, hW⟩ : ∃ W, W = w.alloc (Obj.cells #[.int .i64 (n : Int), .slice ao es.length cap] 24) := ⟨_, rfl⟩
  have hbw : Below w.heap.size w W := by rw [hW]; exact Below.of_al _ _
  have c0 : W.cell? ⟨w.heap.size, 0, none⟩ = some (.int .i64 (n : Int)) := by rw [hW]; go_simp
  have c1 : W.cell? ⟨w.heap.size, 1, none⟩ = some (.slice ao es.length cap) := by rw [hW]; go_simp
  have HRO := Lib.hid (refRow_any n s es ao cap lo lc tl W hg hn hes hs (hc.go hbw) (hlc.go hbw) (by omega) hno hA)
  have HW := Lib.hid hW
  have HB := Lib.hid hbw
  have HDL := Lib.hid (show (tl.map (distV es (s : Int))).length = tl.length from List.length_map _)
  have hll := hL.1.length_eq
  have hlp := plc_len 4611686018427387904 (tl.map (distV es (s : Int))) (tl.map (distV es (s : Int))).length
  have hl20 : (L.length : Int) ≤ 20 := by rw [List.length_map] at hlp hll; omega
  have htl2 : (tl.length : Int) ≤ 20 := by omega
  have HL := Lib.hid hL
  unfold RowOut at HRO
  clear hW hbw hc hlc hno hA hL hll hlp
  go_enter Tryz.func64, Tryz.ntmps64
  go_upto_region 1 with (fail)
  rw [← HW.out]
  go_upto_region 2 with (go_at_call 62; refine HRO.out.mono ?_; rintro e w2 ⟨ra, rc, rfl, k1, -, k2⟩; (have HC2 := Lib.hid k1); (have HB2 := Lib.hid (HB.out.st k2)); clear k1 k2)
  clear HRO
  generalize tl.map (distV es (s : Int)) = ds at *
  have HR0 := Lib.hid (World.ownsRow_nil w2 w2.heap.size 3 1)
  go_wp2
  go_loopg [10] L.length (fun gg v10 wr => ∃ k : Nat, k ≤ L.length ∧ L.length - k ≤ gg ∧ (k : Int) ≤ max nn 0 ∧ Aside (wr.ownsRow w2.heap.size 3 1 v10 k ((L.take k).map encI)) ∧ Aside (Below w2.heap.size w2 wr))
  case atStart => exact ⟨0, Nat.zero_le _, by omega, by omega, HR0.out, Below.refl _ _⟩
  case round =>
    obtain ⟨k, hk, hgg, hkn, HR, HBW⟩ := hrel
    obtain ⟨oa, oc, eo, hco⟩ := Cel.of_owns HR.out
    subst eo
    have HCO := Lib.hid hco
    obtain ⟨wk, hwk⟩ : ∃ wk, wk = wr := ⟨_, rfl⟩
    rw [← hwk] at HCO HR HBW
    have HWK := Lib.hid hwk
    clear hco hwk
    by_cases hlt : (k : Int) < nn
    · have HQL := Lib.hid (show (L.take k).length = k by rw [List.length_take]; omega)
      have HBS := Lib.hid (show ∀ i, bestF 4611686018427387904 ds (L.take k) (i + 1) = if (i : Int) ∉ L.take k ∧ ds.getD i 0 < 4611686018427387904 ∧ (bestF 4611686018427387904 ds (L.take k) i < 0 ∨ ds.getD i 0 < ds.getD (bestF 4611686018427387904 ds (L.take k) i).toNat 0) then (i : Int) else bestF 4611686018427387904 ds (L.take k) i from fun i => rfl)
      have HBI := Lib.hid (fun i => bestF_in 4611686018427387904 ds (L.take k) i)
      have HBE := Lib.hid (show (k < L.length ∧ ∃ h : k < L.length, bestF 4611686018427387904 ds (L.take k) tl.length = L[k]) ∨ (k = L.length ∧ bestF 4611686018427387904 ds (L.take k) tl.length = -1) by
        rw [← HDL.out]
        rcases Nat.lt_or_ge k L.length with h | h
        · exact .inl ⟨h, h, bestF_sorted HL.out.1 HL.out.2 h⟩
        · have : k = L.length := by omega
          subst this
          exact .inr ⟨rfl, bestF_end HL.out.1⟩)
      have HTK := Lib.hid (fun h : k < L.length => show (L.take (k + 1)).map encI = (L.take k).map encI ++ [.int .i64 L[k]] by rw [List.take_succ_eq_append_getElem h, List.map_append]; rfl)
      have HB0 := Lib.hid (show bestF 4611686018427387904 ds (L.take k) 0 = -1 from rfl)
      have HKL := Lib.hid hk
      generalize hq : L.take k = q at *
      have HQT0 := Lib.hid hq
      clear hq
      generalize hF : bestF 4611686018427387904 ds q = F at *
      clear hF
      have hk0 : (0 : Int) ≤ (k : Int) := by omega
      go_wp2
      go_loopg [11, 12] tl.length (fun g2 v11 v12 wr => ∃ i : Nat, i ≤ tl.length ∧ tl.length - i ≤ g2 ∧ v11 = .int .i64 (F i) ∧ v12 = .int .i64 (i : Int) ∧ Aside (Below wk.heap.size wk wr))
      case atStart => exact ⟨0, Nat.zero_le _, by omega, by rw [HB0.out], rfl, by rw [HWK.out]; exact Below.refl _ _⟩
      case round =>
        clear HWK
        obtain ⟨i, hi, hg2, rfl, rfl, HB3⟩ := hrel
        by_cases hlt2 : i < tl.length
        · have hlt3 : (i : Int) < (tl.length : Int) := by omega
          have hi0 : (0 : Int) ≤ (i : Int) := by omega
          obtain ⟨wj, hwj⟩ : ∃ wj, wj = wr := ⟨_, rfl⟩
          rw [← hwj] at HB3
          go_wp2
          go_loopg [13, 14] k (fun g3 v13 v14 wr => ∃ j : Nat, j ≤ k ∧ k - j ≤ g3 ∧ v13 = .bool (decide ((i : Int) ∈ q.take j)) ∧ v14 = .int .i64 (j : Int) ∧ wj = wr)
          case atStart => exact ⟨0, Nat.zero_le _, by omega, by simp, rfl, hwj⟩
          case round =>
            clear hwj
            obtain ⟨j, hj, hg3, rfl, rfl, rfl⟩ := hrel
            by_cases hlt4 : j < k
            · have hlt5 : (j : Int) < (k : Int) := by omega
              have hj0 : (0 : Int) ≤ (j : Int) := by omega
              have hjq : j < q.length := by rw [HQL.out]; exact hlt4
              obtain ⟨ob, oo, hoa, y0⟩ := (HCO.out.go HB3).at hjq
              subst hoa
              have HN := Lib.hid (mem_take_succ (x := (i : Int)) hjq)
              generalize q[j] = x at *
              generalize decide ((i : Int) ∈ q.take j) = had at *
              clear hjq
              cases had with
              | true =>
                go_wp2
                go_roundg (k - (j + 1))
                case measure => omega
                case rel => exact ⟨j + 1, by omega, Nat.le_refl _, by rw [HN.out]; rfl, by go_num, rfl⟩
              | false =>
                by_cases e : x = (i : Int)
                · have he : (x == (i : Int)) = true := by simpa using e
                  have HN2 := Lib.hid (HN.out.trans (show (false || (x == (i : Int))) = true by simp [he]))
                  clear e
                  go_wp2
                  go_roundg (k - (j + 1))
                  case measure => omega
                  case rel => exact ⟨j + 1, by omega, Nat.le_refl _, by rw [HN2.out], by go_num, rfl⟩
                · have he : (x == (i : Int)) = false := by simpa using e
                  have HN2 := Lib.hid (HN.out.trans (show (false || (x == (i : Int))) = false by simp [he]))
                  clear e
                  go_wp2
                  go_roundg (k - (j + 1))
                  case measure => omega
                  case rel => exact ⟨j + 1, by omega, Nat.le_refl _, by rw [HN2.out], by go_num, rfl⟩
            · obtain rfl : j = k := by omega
              have HQT := Lib.hid (show q.take j = q from List.take_of_length_le (by rw [HQL.out]; exact Nat.le_refl _))
              rw [HQT.out]
              have hid : i < ds.length := by rw [HDL.out]; exact hlt2
              obtain ⟨rb, ro, hra, y0⟩ := (HC2.out.go (HBW.st HB3)).at hid
              have HFN := Lib.hid (HBS.out i)
              rw [show ds.getD i 0 = ds[i] by simp [List.getD, hid]] at HFN
              have hbi := HBI.out i
              have HBD := Lib.hid (fun (m : Nat) (hm : m < ds.length) => (HC2.out.go (HBW.st HB3)).at hm)
              have HGD := Lib.hid (fun (m : Nat) (hm : m < ds.length) => (show ds.getD m 0 = ds[m] by simp [List.getD, hm]))
              subst hra
              have HID := Lib.hid hid
              generalize ds[i] = x at *
              clear hid
              generalize F i = bb at *
              have hpos : (bb = -1 ∨ 0 ≤ bb ∧ bb < (i : Int)) := hbi
              by_cases hin : (i : Int) ∈ q
              · have hd : decide ((i : Int) ∈ q) = true := by simpa using hin
                have HX := Lib.hid (HFN.out.trans (if_neg (fun h => h.1 hin)))
                rw [hd]
                clear hin hd hbi hpos
                go_wp2
                go_quiet (fail)
                go_wp2
                go_roundg (tl.length - (i + 1))
                case measure => omega
                case rel => exact ⟨i + 1, by omega, Nat.le_refl _, by rw [HX.out], by go_num, HB3.dr _⟩
              · have hd : decide ((i : Int) ∈ q) = false := by simpa using hin
                rw [hd]
                clear hd hbi
                by_cases hx : x < 4611686018427387904
                · have hxg : decide (x < 4611686018427387904) = true := by simpa using hx
                  rcases hpos with rfl | ⟨hb0, hb1⟩
                  · have HX := Lib.hid (HFN.out.trans (if_pos ⟨hin, hx, .inl (by omega)⟩))
                    clear hin hx
                    go_wp2
                    go_quiet (fail)
                    go_wp2
                    go_roundg (tl.length - (i + 1))
                    case measure => omega
                    case rel => exact ⟨i + 1, by omega, Nat.le_refl _, by rw [HX.out], by go_num, HB3.dr _⟩
                  · obtain ⟨m, rfl⟩ : ∃ m : Nat, bb = (m : Int) := ⟨bb.toNat, by omega⟩
                    have hm : m < ds.length := by have := HID.out; omega
                    have hmt : (m : Int) < (tl.length : Int) := by have := HDL.out; omega
                    obtain ⟨_, _, e, y1⟩ := HBD.out m hm
                    cases e
                    rw [Int.toNat_natCast, HGD.out m hm] at HFN
                    generalize ds[m] = z at *
                    have hbg : decide ((m : Int) < 0) = false := by simp
                    by_cases hz : x < z
                    · have hzg : decide (x < z) = true := by simpa using hz
                      have HX := Lib.hid (HFN.out.trans (if_pos ⟨hin, hx, .inr hz⟩))
                      clear hin hx hz hm
                      go_wp2
                      go_quiet (fail)
                      go_wp2
                      go_roundg (tl.length - (i + 1))
                      case measure => omega
                      case rel => exact ⟨i + 1, by omega, Nat.le_refl _, by rw [HX.out], by go_num, HB3.dr _⟩
                    · have hzg : decide (x < z) = false := by simpa using hz
                      have HX := Lib.hid (HFN.out.trans (if_neg (fun h => h.2.2.elim (fun h => by omega) hz)))
                      clear hin hx hz hm
                      go_wp2
                      go_quiet (fail)
                      go_wp2
                      go_roundg (tl.length - (i + 1))
                      case measure => omega
                      case rel => exact ⟨i + 1, by omega, Nat.le_refl _, by rw [HX.out], by go_num, HB3.dr _⟩
                · have hxg : decide (x < 4611686018427387904) = false := by simpa using hx
                  have HX := Lib.hid (HFN.out.trans (if_neg (fun h => hx h.2.1)))
                  clear hin hx hpos
                  go_wp2
                  go_quiet (fail)
                  go_wp2
                  go_roundg (tl.length - (i + 1))
                  case measure => omega
                  case rel => exact ⟨i + 1, by omega, Nat.le_refl _, by rw [HX.out], by go_num, HB3.dr _⟩
        · obtain rfl : i = tl.length := by omega
          clear HBS HBI
          rcases HBE.out with ⟨hkl, _, hF⟩ | ⟨hkl, hF⟩
          · rw [hF]
            have HTK2 := Lib.hid (HTK.out hkl)
            have hpos : 0 ≤ L[k] := by
              have := (mem_plc.1 (HL.out.1.mem_iff.1 (List.getElem_mem hkl))).1
              exact this
            have hneg : decide (L[k] < 0) = false := by simp; omega
            have hz := HB3.size
            have hz2 := HBW.size
            have HZ := Lib.hid (And.intro hz hz2)
            have hk20 : k ≤ 20 := by omega
            have HKR := Lib.hid (hp_owns_go HR HB3)
            clear hF hz hz2 HTK hpos
            generalize L[k] = y at *
            go_wp2_with (at_builtin; go_must (refine wpList_app w2.heap.size 3 _ 1 8 elem_int Tryz.underlying25 (.slice oa k oc) k _ ⟨wr.heap.size, 0, none⟩ 1 1 [.int .i64 y] rfl rfl (World.ownsRow.alloc HKR.out _) (cell_one_new _ _ _) (one_cells rfl) ⟨rfl, by decide, (by omega), (by omega), (by have := HZ.out; simp; omega)⟩ ?_); intro g7 cap7 w7 hown hgr hbl hat hlt7; (have HR7 := Lib.hid hown); (have HB7 := Lib.hid (((HBW.st HB3).al _).trans hbl)); clear hown hgr hbl hat hlt7)
            go_roundg (L.length - (k + 1))
            case measure => omega
            case rel => exact ⟨k + 1, by omega, Nat.le_refl _, by omega, by rw [HTK2.out]; exact HR7.out, HB7.out⟩
          · rw [hF]
            clear hF HTK
            have hneg : decide ((-1 : Int) < 0) = true := by decide
            go_wp2
            go_ret
            exact ⟨oa, k, oc, by omega, rfl, by rw [HQT0.out]; exact HCO.out.go HB3, HB2.out.st (HBW.st HB3)⟩
    · go_wp2
      go_ret
      exact ⟨oa, k, oc, by omega, rfl, by rw [← HWK.out]; exact HCO.out, HB2.out.st (by rw [← HWK.out]; exact HBW)⟩
end Go.Proofs.YtkdomobedfhhgaaGreat
end
