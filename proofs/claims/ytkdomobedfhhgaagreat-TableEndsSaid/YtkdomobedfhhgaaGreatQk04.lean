/-
  Walk of the law TableEnds.
-/
import Derived.Test.YtkdomobedfhhgaaGreatProg
import Derived.Test.YtkdomobedfhhgaaGreatQk03
import Derived.Test.YtkdomobedfhhgaaGreatQc03
import Derived.Test.YtkdomobedfhhgaaGreatQf02
import Derived.Deep.CutRange
set_option linter.unusedVariables false
set_option linter.unusedSimpArgs false
set_option linter.unnecessarySimpa false
namespace Go.Proofs.YtkdomobedfhhgaaGreat
open Go Go.Proofs Go.RowKit Go.Shelf Go.Proofs.YtkdomobedfhhgaaGreat.Hp Go.Proofs.YtkdomobedfhhgaaGreat.Ch

theorem cel_sub {W : World} {b o j : Nat} {l : List Int} (h : Cel W (some ⟨b, o, none⟩) (l.map encI)) (hj : j < l.length) : Cel W (some ⟨b, o + j, none⟩) ([l[j]].map encI) := by
  intro i u hu
  match i with
  | 0 =>
    cases hu
    obtain ⟨b', o', e, c⟩ := h.at hj
    cases e
    exact ⟨b, o + j, rfl, c⟩
  | i + 1 => simp at hu

/-- a row of one number -/
def OneP (x : Int) (v : Value) (W : World) : Prop := ∃ b o cp D : Nat, v = .slice (some ⟨b, o, none⟩) 1 cp ∧ W.cell? ⟨b, o, none⟩ = some (.slice (some ⟨D, 0, none⟩) 1 1) ∧ W.cell? ⟨D, 0, none⟩ = some (.int .u64 x)
theorem OneP.go {x : Int} {v : Value} {W W' : World} (h : OneP x v W) (hb : Below W.heap.size W W') : OneP x v W' := let ⟨b, o, cp, D, h1, h2, h3⟩ := h; ⟨b, o, cp, D, h1, cell_later hb h2, cell_later hb h3⟩
/-- what the operations give where Of is asked for one from one -/
def teR (hv lv sv tv : Value) (i j x : Int) : Nat → Value → World → Prop
  | 0, v, _ => v = hv
  | 1, v, _ => v = lv
  | 2, v, _ => v = .int .i64 i
  | 3, v, _ => v = .int .i64 i
  | 4, v, _ => v = .int .i64 (i + 1)
  | 5, v, _ => v = sv
  | 6, v, _ => v = lv
  | 7, v, _ => v = .int .i64 j
  | 8, v, _ => v = .int .i64 j
  | 9, v, _ => v = .int .i64 (j + 1)
  | 10, v, _ => v = tv
  | 11, v, W => ∃ u, v = .tuple #[u, .int .i64 0] ∧ OneP x u W
  | 12, v, W => ∃ u, v = .tuple #[u, .int .i64 0] ∧ OneP x u W
  | 13, v, W => OneP x v W
  | 14, v, _ => v = .int .i64 0
  | 15, v, W => OneP x v W
  | 16, v, _ => v = .int .i64 0
  | _, _, _ => True
theorem teR_go {hv lv sv tv : Value} {i j x : Int} : ∀ (k : Nat) (v : Value) (w w' : World), Below w.heap.size w w' → teR hv lv sv tv i j x k v w → teR hv lv sv tv i j x k v w'
  | 0, _, _, _, _, h | 1, _, _, _, _, h | 2, _, _, _, _, h | 3, _, _, _, _, h | 4, _, _, _, _, h | 5, _, _, _, _, h | 6, _, _, _, _, h | 7, _, _, _, _, h | 8, _, _, _, _, h | 9, _, _, _, _, h | 10, _, _, _, _, h | 14, _, _, _, _, h | 16, _, _, _, _, h => h
  | 11, _, _, _, hb, h | 12, _, _, _, hb, h => let ⟨u, h1, h2⟩ := h; ⟨u, h1, h2.go hb⟩
  | 13, _, _, _, hb, h | 15, _, _, _, hb, h => OneP.go h hb
  | _ + 17, _, _, _, _, _ => trivial

set_option maxRecDepth 100000 in
set_option maxHeartbeats 4000000 in
theorem TableEnds_any (g : GD) (ao : Option Addr) (cap : Nat) (h1 s1 : Int) (ro : Option Addr) (r : List Int) (rc : Nat) (lo : Option Addr) (l : List Int) (lc : Nat) (w : World) (hc : Cel w ao (flat g.es)) (hr : Cel w ro (r.map encI)) (hlc : Cel w lo (l.map encI)) (hcap : l.length ≤ lc) :
    Calls Tryz.prog 7 #[.agg #[.int .i64 g.n, .slice ao g.es.length cap], .agg #[.int .i64 h1, .int .i64 s1, .slice ro r.length rc], .slice lo l.length lc] w fun e w' => e = .returned (.bool true) ∧ Below w.heap.size w w' := by
  obtain ⟨V, hV⟩ : ∃ V, V = (w.alloc (Obj.cells #[.int .i64 g.n, .slice ao g.es.length cap] 24)).alloc (Obj.cells #[.int .i64 h1, .int .i64 s1, .slice ro r.length rc] 27) := ⟨_, rfl⟩
  have hbV : Below w.heap.size w V := by rw [hV]; exact (Below.of_al _ _).al _
  have HQ := Lib.hid (show QB1 V w.heap.size g ao cap h1 s1 ro r rc by rw [hV]; constructor <;> go_simp)
  have HAL := Lib.hid alive25_any
  have HLI := Lib.hid (light20_any g.n g.es ao cap V)
  have HB := Lib.hid hbV
  have HV := Lib.hid hV
  obtain ⟨p0, p1, p2, p3, p4⟩ := HQ.out
  have HCS := Lib.hid (And.intro (hc.go hbV) (hr.go hbV))
  have HLC := Lib.hid (hlc.go hbV)
  clear hbV hV hc hr hlc
  cases hl : light20 g.n g.es with
  | false =>
    rw [hl] at HLI
    clear hl
    go_enter Tryz.func7, Tryz.ntmps7
    go_upto_region 1 with (fail)
    rw [← HV.out]
    go_wp2_with (first
      | (go_at_call 14; refine HLI.out.mono ?_; rintro e w1 ⟨rfl, hb1⟩; (have HB1 := Lib.hid (HB.out.st hb1)); clear hb1)
      | (go_at_call 35; refine (HAL.out _).mono ?_; rintro e w2 ⟨rfl, hb2⟩; (have HB2 := Lib.hid (HB1.out.st hb2)); clear hb2))
    go_ret
    exact ⟨rfl, HB2.out⟩
  | true =>
    obtain ⟨hg, hes⟩ := light20_small hl
    have HG := Lib.hid hg
    rw [hl] at HLI
    clear hl hg
    by_cases hr6 : (60 : Int) < (r.length : Int)
    · go_enter Tryz.func7, Tryz.ntmps7
      go_upto_region 1 with (fail)
      rw [← HV.out]
      go_wp2_with (first
        | (go_at_call 14; refine HLI.out.mono ?_; rintro e w1 ⟨rfl, hb1⟩; (have HB1 := Lib.hid (HB.out.st hb1)); (have k4 := cell_later hb1 p4); clear hb1)
        | (go_at_call 35; refine (HAL.out _).mono ?_; rintro e w2 ⟨rfl, hb2⟩; (have HB2 := Lib.hid (HB1.out.st hb2)); clear hb2))
      go_ret
      exact ⟨rfl, HB2.out⟩
    · by_cases hl6 : (12 : Int) < (l.length : Int)
      · go_enter Tryz.func7, Tryz.ntmps7
        go_upto_region 1 with (fail)
        rw [← HV.out]
        go_wp2_with (first
          | (go_at_call 14; refine HLI.out.mono ?_; rintro e w1 ⟨rfl, hb1⟩; (have HB1 := Lib.hid (HB.out.st hb1)); (have k4 := cell_later hb1 p4); clear hb1)
          | (go_at_call 35; refine (HAL.out _).mono ?_; rintro e w2 ⟨rfl, hb2⟩; (have HB2 := Lib.hid (HB1.out.st hb2)); clear hb2))
        go_ret
        exact ⟨rfl, HB2.out⟩
      · by_cases hl0 : (l.length : Int) = 0
        · go_enter Tryz.func7, Tryz.ntmps7
          go_upto_region 1 with (fail)
          rw [← HV.out]
          go_wp2_with (first
            | (go_at_call 14; refine HLI.out.mono ?_; rintro e w1 ⟨rfl, hb1⟩; (have HB1 := Lib.hid (HB.out.st hb1)); (have k4 := cell_later hb1 p4); clear hb1)
            | (go_at_call 35; refine (HAL.out _).mono ?_; rintro e w2 ⟨rfl, hb2⟩; (have HB2 := Lib.hid (HB1.out.st hb2)); clear hb2))
          go_ret
          exact ⟨rfl, HB2.out⟩
        · have HBA := Lib.hid (fun W (hz : Below V.heap.size V W) => built_any g ao ro cap rc h1 s1 r W (HCS.out.1.go hz) (HCS.out.2.go hz) (fun k => by have := HG.out k; omega) (by omega) (by omega))
          have HZ := Lib.hid (fun k : buildB g h1 s1 r = 0 => build_right k)
          have hl1 : ((l.length : Int) == 0) = false := by simpa using hl0
          have HL0 := Lib.hid (show 0 < l.length by omega)
          have HL12 := Lib.hid (show l.length ≤ 12 by omega)
          clear hl0
          generalize buildB g h1 s1 r = k1 at *
          by_cases e1 : k1 = 0
          · subst e1
            have hgz := HZ.out rfl
            have hn := HG.out hgz
            have hgn := right_n hgz
            obtain ⟨n, hnn⟩ : ∃ n : Nat, g.n = (n : Int) := ⟨g.n.toNat, by omega⟩
            obtain ⟨gn, es⟩ := g
            simp only at hnn hn hes
            subst hnn
            have hn12 : n ≤ 12 := by omega
            have hes40 : es.length ≤ 40 := by omega
            have HGZ := Lib.hid hgz
            clear hgz HZ
            go_enter Tryz.func7, Tryz.ntmps7
            go_upto_region 1 with (fail)
            rw [← HV.out]
            go_upto_region 3 with (go_at_call 14; refine HLI.out.mono ?_; rintro e w1 ⟨rfl, hb1⟩; (have HB1 := Lib.hid hb1); (obtain ⟨x0, x1, x2, x3, x4⟩ := HQ.out.go hb1); clear hb1)
            go_upto_region 4 with (go_at_call 16; refine (HBA.out _ HB1.out).mono ?_; rintro e w2 hp2; (obtain ⟨hb, R, S, po, rfl, hbh, hb2⟩ := hp2.good rfl HGZ.out hn); (have HH := Lib.hid (show BH w2 hb n es R S po from hbh)); (have HB2 := Lib.hid (HB1.out.st hb2)); (have z0 := cell_later hb2 x0); (have z1 := cell_later hb2 x1); clear hb2 hp2 hbh)
            clear x0 x1 x2 x3 x4 p0 p1 p2 p3 p4
            have HNO := Lib.hid (fun gv => refNodes_any n gv lo lc l w2 (HLC.out.go HB2.out) (by have := HL12.out; omega))
            cases hno : l.any (outB n) with
            | true =>
              rw [hno] at HNO
              clear hno
              go_wp2_with (first
                | (go_at_call 36; refine (HNO.out _).mono ?_; rintro e w3 ⟨rfl, hb3⟩; (have HB3 := Lib.hid (HB2.out.st hb3)); clear hb3)
                | (go_at_call 35; refine (HAL.out _).mono ?_; rintro e w4 ⟨rfl, hb4⟩; (have HB4 := Lib.hid (HB3.out.st hb4)); clear hb4))
              go_ret
              exact ⟨rfl, HB.out.st HB4.out⟩
            | false =>
              rw [hno] at HNO
              have hnod := outB_no.1 hno
              have HND := Lib.hid hnod
              clear hno hnod
              have HTO := Lib.hid (fun W (hz : Below V.heap.size V W) (hh : BH W hb n es R S po) => tour_any hb n es R S po lo lc l W hh (by have := HL12.out; omega) hcap (HLC.out.go hz) HND.out)
              have HOF := Lib.hid (fun W (hz : Below V.heap.size V W) (hh : BH W hb n es R S po) => of_any hb n es R S po l l lo lo lc lc W hh (HLC.out.go hz) (HLC.out.go hz) (by have := HL12.out; omega) (by have := HL12.out; omega) HND.out HND.out)
              go_upto_region 6 with (go_at_call 36; refine (HNO.out _).mono ?_; rintro e w3 ⟨rfl, hb3⟩; (have HB3 := Lib.hid (HB2.out.st hb3)); (have HH3 := Lib.hid (HH.out.go hb3)); clear hb3)
              go_upto_region 8 with (first
                | (go_at_call 37; refine (HTO.out _ HB3.out HH3.out).mono ?_; rintro e w4 ht; obtain ⟨tw, tk, rfl, ht1, hb4⟩ := ht.ex; (have HT4 := Lib.hid ht1); (have HB4 := Lib.hid (HB3.out.st hb4)); (have HH4 := Lib.hid (HH3.out.go hb4)); clear ht ht1 hb4)
                | (go_at_call 38; refine (HOF.out _ HB4.out HH4.out).mono ?_; rintro e w5 ht; obtain ⟨ao2, cap2, rfl, k1, k4⟩ := of_rows ht; (have HR5 := Lib.hid k1); (have HB5 := Lib.hid (HB4.out.st k4)); (have HH5 := Lib.hid (HH4.out.go k4)); clear ht k1 k4))
              obtain ⟨lb, lof, hlo, -⟩ := HLC.out.at HL0.out
              subst hlo
              obtain ⟨ab, aof, -, hao2, -⟩ := HR5.out 0 HL0.out
              subst hao2
              have HROW := Lib.hid (show ∀ i (hi : i < l.length), ∃ D : Nat, w5.cell? ⟨ab, aof + i, none⟩ = some (.slice (some ⟨D, 0, none⟩) l.length l.length) ∧ ∀ j (hj : j < l.length), w5.cell? ⟨D, j, none⟩ = some (.int .u64 (distV es l[i] l[j])) ∧ DistT es l[i] l[j] from fun i hi => by
                obtain ⟨b, o, D, e, h1, h2⟩ := HR5.out i hi
                cases e
                exact ⟨D, h1, h2⟩)
              have hl12 : (l.length : Int) ≤ 12 := by have := HL12.out; omega
              have hcap2 : (l.length : Int) ≤ (lc : Int) := by omega
              clear HR5 HTO HOF HNO HBA z0 z1 hl6 hr6 hcap
              go_wp2
              go_loopg [13] l.length (fun g1 v13 wr => ∃ i : Nat, i ≤ l.length ∧ l.length - i ≤ g1 ∧ v13 = .int .i64 (i : Int) ∧ Aside (Below w5.heap.size w5 wr))
              case atStart => exact ⟨0, Nat.zero_le _, by omega, rfl, Below.refl _ _⟩
              case round =>
                obtain ⟨i, hi, hg1, rfl, HBW⟩ := hrel
                by_cases hlt : i < l.length
                · have hlt3 : (i : Int) < (l.length : Int) := by omega
                  have hi0 : (0 : Int) ≤ (i : Int) := by omega
                  obtain ⟨D, hD, hrow⟩ := HROW.out i hlt
                  have HDC := Lib.hid hD
                  have HRW := Lib.hid hrow
                  have hic : i ≤ lc := by omega
                  have hic1 : i + 1 ≤ lc := by omega
                  have hic2 : (i : Int) + 1 ≤ (lc : Int) := by omega
                  have hic3 : (i : Int) ≤ 12 := by omega
                  clear hD hrow
                  go_wp2
                  go_loopg [14] l.length (fun g2 v14 wr => ∃ j : Nat, j ≤ l.length ∧ l.length - j ≤ g2 ∧ v14 = .int .i64 (j : Int) ∧ Aside (Below w5.heap.size w5 wr))
                  case atStart => exact ⟨0, Nat.zero_le _, by omega, rfl, HBW.out⟩
                  case round =>
                    obtain ⟨j, hj, hg2, rfl, HBX⟩ := hrel
                    by_cases hlt2 : j < l.length
                    · have hlt4 : (j : Int) < (l.length : Int) := by omega
                      have hj0 : (0 : Int) ≤ (j : Int) := by omega
                      have hjc : j ≤ lc := by omega
                      have hjc1 : j + 1 ≤ lc := by omega
                      have hjc2 : (j : Int) + 1 ≤ (lc : Int) := by omega
                      have hjc3 : (j : Int) ≤ 12 := by omega
                      have HO1 := Lib.hid (fun W (hz : Below wr.heap.size wr W) => of_any hb n es R S po [l[i]] [l[j]] (some ⟨lb, lof + i, none⟩) (some ⟨lb, lof + j, none⟩) (lc - i) (lc - j) W (HH5.out.go (HBX.out.st hz)) (cel_sub (HLC.out.go (HB5.out.st (HBX.out.st hz))) hlt) (cel_sub (HLC.out.go (HB5.out.st (HBX.out.st hz))) hlt2) (by simp) (by simp) (by intro v hv; obtain rfl := List.mem_singleton.1 hv; exact HND.out _ (List.getElem_mem hlt)) (by intro v hv; obtain rfl := List.mem_singleton.1 hv; exact HND.out _ (List.getElem_mem hlt2)))
                      have HX := Lib.hid (HRW.out j hlt2).1
                      generalize l[i] = s at *
                      generalize l[j] = t at *
                      go_upto_region 16 with (fail)
                      obtain ⟨wk, hwk⟩ : ∃ wk, wk = wr := ⟨_, rfl⟩
                      rw [← hwk] at HO1 HBX ⊢
                      go_cut [15, 16] from 86 to 139 (fun v15 v16 wc => OneP (distV es s t) v15 wc ∧ v16 = .int .i64 0 ∧ Below wk.heap.size wk wc)
                      case first =>
                        rename_i J K2 hJ hK2
                        refine wp_region_grows_act 17 rfl (teR (.pointer (some ⟨hb, 0, none⟩)) (.slice (some ⟨lb, lof, none⟩) l.length lc) (.slice (some ⟨lb, lof + i, none⟩) 1 (lc - i)) (.slice (some ⟨lb, lof + j, none⟩) 1 (lc - j)) (i : Int) (j : Int) (distV es s t)) (by kernel_rfl) (by kernel_rfl) teR_go ?_ ?_
                        · refine ⟨?_, ?_, ?_, ?_, ?_, ?_, ?_, ?_, ?_, ?_, ?_, ?_, ?_, ?_, ?_, ?_, ?_, trivial⟩
                          · intro act w' hbe hd ho K hK
                            have g7 : act.tmps.getD 7 undef = .pointer (some ⟨hb, 0, none⟩) := ho 7 (by kernel_rfl)
                            simp [Oper.wp, execOp, Oper.upon, go_sem, Act.eval, g7]
                            exact hK _ w' (Below.refl _ _) rfl
                          · intro act w' hbe hd ho K hK
                            have g2 : act.tmps.getD 2 undef = .slice (some ⟨lb, lof, none⟩) l.length lc := ho 2 (by kernel_rfl)
                            simp [Oper.wp, execOp, Oper.upon, go_sem, Act.eval, g2]
                            exact hK _ w' (Below.refl _ _) rfl
                          · intro act w' hbe hd ho K hK
                            have g13 : act.tmps.getD 13 undef = .int .i64 (i : Int) := ho 13 (by kernel_rfl)
                            simp [Oper.wp, execOp, Oper.upon, go_sem, Act.eval, g13]
                            exact hK _ w' (Below.refl _ _) rfl
                          · intro act w' hbe hd ho K hK
                            have g13 : act.tmps.getD 13 undef = .int .i64 (i : Int) := ho 13 (by kernel_rfl)
                            simp [Oper.wp, execOp, Oper.upon, go_sem, Act.eval, g13]
                            exact hK _ w' (Below.refl _ _) rfl
                          · intro act w' hbe hd ho K hK
                            have e3 : act.tmps.getD 90 undef = .int .i64 (i : Int) := hd 3 (by rfl)
                            have hwi : IntKind.i64.wrap ((i : Int) + 1) = (i : Int) + 1 := by rw [IntKind.wrap_i64]; omega
                            simp [Oper.wp, execOp, Oper.upon, go_sem, Act.eval, e3, hwi]
                            exact hK _ w' (Below.refl _ _) rfl
                          · intro act w' hbe hd ho K hK
                            have e1 : act.tmps.getD 88 undef = .slice (some ⟨lb, lof, none⟩) l.length lc := hd 1 (by rfl)
                            have e2 : act.tmps.getD 89 undef = .int .i64 (i : Int) := hd 2 (by rfl)
                            have e4 : act.tmps.getD 91 undef = .int .i64 ((i : Int) + 1) := hd 4 (by rfl)
                            have hne : (lc = i) = False := by simp; omega
                            have hif : (0 : Int) ≤ (i : Int) + 1 ∧ (i : Int) + 1 ≤ (lc : Int) := ⟨by omega, by omega⟩
                            simp [Oper.wp, execOp, Oper.upon, go_sem, Act.eval, e1, e2, e4, hne, hif]
                            exact hK _ w' (Below.refl _ _) rfl
                          · intro act w' hbe hd ho K hK
                            have g2 : act.tmps.getD 2 undef = .slice (some ⟨lb, lof, none⟩) l.length lc := ho 2 (by kernel_rfl)
                            simp [Oper.wp, execOp, Oper.upon, go_sem, Act.eval, g2]
                            exact hK _ w' (Below.refl _ _) rfl
                          · intro act w' hbe hd ho K hK
                            have g14 : act.tmps.getD 14 undef = .int .i64 (j : Int) := ho 14 (by kernel_rfl)
                            simp [Oper.wp, execOp, Oper.upon, go_sem, Act.eval, g14]
                            exact hK _ w' (Below.refl _ _) rfl
                          · intro act w' hbe hd ho K hK
                            have g14 : act.tmps.getD 14 undef = .int .i64 (j : Int) := ho 14 (by kernel_rfl)
                            simp [Oper.wp, execOp, Oper.upon, go_sem, Act.eval, g14]
                            exact hK _ w' (Below.refl _ _) rfl
                          · intro act w' hbe hd ho K hK
                            have e3 : act.tmps.getD 95 undef = .int .i64 (j : Int) := hd 8 (by rfl)
                            have hwi : IntKind.i64.wrap ((j : Int) + 1) = (j : Int) + 1 := by rw [IntKind.wrap_i64]; omega
                            simp [Oper.wp, execOp, Oper.upon, go_sem, Act.eval, e3, hwi]
                            exact hK _ w' (Below.refl _ _) rfl
                          · intro act w' hbe hd ho K hK
                            have e1 : act.tmps.getD 93 undef = .slice (some ⟨lb, lof, none⟩) l.length lc := hd 6 (by rfl)
                            have e2 : act.tmps.getD 94 undef = .int .i64 (j : Int) := hd 7 (by rfl)
                            have e4 : act.tmps.getD 96 undef = .int .i64 ((j : Int) + 1) := hd 9 (by rfl)
                            have hne : (lc = j) = False := by simp; omega
                            have hif : (0 : Int) ≤ (j : Int) + 1 ∧ (j : Int) + 1 ≤ (lc : Int) := ⟨by omega, by omega⟩
                            simp [Oper.wp, execOp, Oper.upon, go_sem, Act.eval, e1, e2, e4, hne, hif]
                            exact hK _ w' (Below.refl _ _) rfl
                          · intro act w' hbe hd ho K hK
                            have e0 : act.tmps.getD 87 undef = .pointer (some ⟨hb, 0, none⟩) := hd 0 (by rfl)
                            have e5 : act.tmps.getD 92 undef = .slice (some ⟨lb, lof + i, none⟩) 1 (lc - i) := hd 5 (by rfl)
                            have e10 : act.tmps.getD 97 undef = .slice (some ⟨lb, lof + j, none⟩) 1 (lc - j) := hd 10 (by rfl)
                            simp [Oper.wp, execOp, Oper.upon, go_sem, Act.eval, e0, e5, e10]
                            refine (HO1.out w' hbe).mono ?_
                            rintro e w6 h6
                            obtain ⟨b, o, c3, D2, rfl, c0, c1, hd, hb6⟩ := of_one h6
                            exact hK _ w6 hb6 ⟨_, rfl, b, o, c3, D2, rfl, c0, c1⟩
                          · intro act w' hbe hd ho K hK
                            obtain ⟨u, e11, hu⟩ : ∃ u, act.tmps.getD 98 undef = .tuple #[u, .int .i64 0] ∧ OneP (distV es s t) u w' := hd 11 (by rfl)
                            simp [Oper.wp, execOp, Oper.upon, go_sem, Act.eval, e11]
                            exact hK _ w' (Below.refl _ _) ⟨u, rfl, hu⟩
                          · intro act w' hbe hd ho K hK
                            obtain ⟨u, e12, hu⟩ : ∃ u, act.tmps.getD 86 undef = .tuple #[u, .int .i64 0] ∧ OneP (distV es s t) u w' := hd 12 (by rfl)
                            simp [Oper.wp, execOp, Oper.upon, go_sem, Act.eval, e12]
                            exact hK _ w' (Below.refl _ _) hu
                          · intro act w' hbe hd ho K hK
                            obtain ⟨u, e12, hu⟩ : ∃ u, act.tmps.getD 86 undef = .tuple #[u, .int .i64 0] ∧ OneP (distV es s t) u w' := hd 12 (by rfl)
                            simp [Oper.wp, execOp, Oper.upon, go_sem, Act.eval, e12]
                            exact hK _ w' (Below.refl _ _) rfl
                          · intro act w' hbe hd ho K hK
                            have e13 : OneP (distV es s t) (act.tmps.getD 99 undef) w' := hd 13 (by rfl)
                            generalize he : act.tmps.getD 99 undef = v13 at e13
                            simp [Oper.wp, execOp, Oper.upon, go_sem, Act.eval, he]
                            exact hK _ w' (Below.refl _ _) e13
                          · intro act w' hbe hd ho K hK
                            have e14 : act.tmps.getD 100 undef = .int .i64 0 := hd 14 (by rfl)
                            simp [Oper.wp, execOp, Oper.upon, go_sem, Act.eval, e14]
                            exact hK _ w' (Below.refl _ _) rfl
                        · intro vs w' hb1 hR
                          simp only [puts, dstAt, List.getElem?_cons_zero, List.getElem?_cons_succ, Option.bind_some, Option.getD_some, Act.put, List.length_cons, List.length_nil, Nat.reduceAdd, List.setIfInBounds_toArray, List.set_cons_zero, List.set_cons_succ]
                          refine hK2 _ _ ?_
                          go_meet
                          exact ⟨hR 15 (by decide), hR 16 (by decide), hb1⟩
                      case rest =>
                        obtain ⟨⟨qb, qo, qc, D2, rfl, c0, c1⟩, rfl, hbc⟩ := hcut
                        have c2 := cell_later (HBX.out.st hbc) HDC.out
                        have c3 := cell_later (HBX.out.st hbc) HX.out
                        have HBC := Lib.hid (HBX.out.st hbc)
                        have f0 := fun p => cell_ext p c0
                        have f1 := fun p => cell_ext p c1
                        have f2 := fun p => cell_ext p c2
                        have f3 := fun p => cell_ext p c3
                        clear c0 c1 c2 c3 hbc
                        generalize distV es s t = x at *
                        go_upto_region 17 with (fail)
                        refine wp_region_ext (by kernel_rfl) (by kernel_rfl) ?_
                        repeat (go_big_quiet_step (fail))
                        refine wpQuiet_nil ?_
                        rintro _ ⟨p8, rfl⟩
                        have HB8 := Lib.hid (below_ext wc p8)
                        generalize ext wc p8 = w8 at HB8 ⊢
                        clear f0 f1 f2 f3
                        go_wp2
                        go_roundg (l.length - (j + 1))
                        case measure => omega
                        case rel => exact ⟨j + 1, by omega, Nat.le_refl _, by go_num, HBC.out.st HB8.out⟩
                    · obtain rfl : j = l.length := by omega
                      go_wp2
                      go_roundg (l.length - (i + 1))
                      case measure => omega
                      case rel => exact ⟨i + 1, by omega, Nat.le_refl _, by go_num, HBX.out⟩
                · obtain rfl : i = l.length := by omega
                  obtain ⟨D0, c0, hrow⟩ := HROW.out 0 HL0.out
                  obtain ⟨c1, hd⟩ := hrow (l.length - 1) (by have := HL0.out; omega)
                  have g0 : l[0]'HL0.out = l.getD 0 0 := by simp [List.getD, HL0.out]
                  have g1 : l[l.length - 1]'(by have := HL0.out; omega) = l.getD (l.length - 1) 0 := by simp [List.getD, show l.length - 1 < l.length by have := HL0.out; omega]
                  rw [g0, g1] at c1 hd
                  have HDD := Lib.hid hd
                  have b0 := cell_later HBW.out c0
                  have b1 := cell_later HBW.out c1
                  rw [Nat.add_zero] at b0
                  have hlz : (1 : Int) ≤ (l.length : Int) := by have := HL0.out; omega
                  clear c0 c1 hrow g0 g1 hd
                  rcases HT4.out with ⟨rfl, hle⟩ | rfl
                  · have hxl := hle HDD.out
                    clear hle HDD HT4
                    generalize distV es (l.getD 0 0) (l.getD (l.length - 1) 0) = x at *
                    have hlx : decide (x ≤ tw) = true := by simpa using hxl
                    go_wp2_with (go_at_call 35; refine (HAL.out _).mono ?_; rintro e w9 ⟨rfl, hb9⟩; (have HB9 := Lib.hid ((HB5.out.st HBW.out).st hb9)); clear hb9)
                    go_ret
                    exact ⟨rfl, HB.out.st HB9.out⟩
                  · go_wp2_with (go_at_call 35; refine (HAL.out _).mono ?_; rintro e w9 ⟨rfl, hb9⟩; (have HB9 := Lib.hid ((HB5.out.st HBW.out).st hb9)); clear hb9)
                    go_ret
                    exact ⟨rfl, HB.out.st HB9.out⟩
          · have HE := Lib.hid e1
            have hk1 : (k1 != 0) = true := by simpa using e1
            clear e1
            go_enter Tryz.func7, Tryz.ntmps7
            go_upto_region 1 with (fail)
            rw [← HV.out]
            go_wp2_with (first
              | (go_at_call 14; refine HLI.out.mono ?_; rintro e w1 ⟨rfl, hb1⟩; (have HB1 := Lib.hid hb1); (obtain ⟨x0, x1, x2, x3, x4⟩ := HQ.out.go hb1); clear hb1)
              | (go_at_call 16; refine (HBA.out _ HB1.out).mono ?_; rintro e w2 hp2; (obtain ⟨rfl, hb2⟩ := hp2.nil HE.out); (have HB2 := Lib.hid (HB1.out.st hb2)); clear hb2 hp2)
              | (go_at_call 35; refine (HAL.out _).mono ?_; rintro e w6 ⟨rfl, hb6⟩; (have HB6 := Lib.hid (HB2.out.st hb6)); clear hb6))
            go_ret
            exact ⟨rfl, HB.out.st HB6.out⟩
end Go.Proofs.YtkdomobedfhhgaaGreat
