/-
  Walk of the law TableTours.
-/
import Derived.Test.YtkdomobedfhhgaaGreatProg
import Derived.Test.YtkdomobedfhhgaaGreatQm01
import Derived.Test.YtkdomobedfhhgaaGreatQc03
import Derived.Test.YtkdomobedfhhgaaGreatQf02
set_option linter.unusedVariables false
set_option linter.unusedSimpArgs false
set_option linter.unnecessarySimpa false
namespace Go.Proofs.YtkdomobedfhhgaaGreat
open Go Go.Proofs Go.RowKit Go.Shelf Go.Proofs.YtkdomobedfhhgaaGreat.Hp Go.Proofs.YtkdomobedfhhgaaGreat.Ch

theorem TourPost.yes {es : List EdgeD} {l : List Int} {w w' : World} {e : Ending} (h : TourPost es l w e w') (hok : legsOK (distV es) l (l.length - 1)) : e = .returned (.tuple #[.int .u64 (legSum (distV es) l (l.length - 1)), .int .i64 0]) ∧ Below w.heap.size w w' := by
  obtain ⟨⟨_, _, h⟩ | ⟨⟨j, h1, _, h2⟩, _⟩, hb⟩ := h
  · exact ⟨h, hb⟩
  · have := hok j h1; omega
theorem TourPost.no {es : List EdgeD} {l : List Int} {w w' : World} {e : Ending} (h : TourPost es l w e w') (hok : ¬ legsOK (distV es) l (l.length - 1)) : e = .returned (.tuple #[.int .u64 0, .int .i64 9]) ∧ Below w.heap.size w w' := by
  obtain ⟨⟨h1, _⟩ | ⟨_, h⟩, hb⟩ := h
  · exact absurd h1 hok
  · exact ⟨h, hb⟩
theorem RefTour.yes {es : List EdgeD} {l : List Int} {w w' : World} {e : Ending} (h : RefTour es l w e w') (hok : legsOK (distV es) l (l.length - 1)) : e = .returned (.tuple #[.int .u64 (legSum (distV es) l (l.length - 1)), .bool true]) ∧ Below w.heap.size w w' := by
  obtain ⟨⟨_, h⟩ | ⟨⟨j, h1, h2⟩, _⟩, hb⟩ := h
  · exact ⟨h, hb⟩
  · have := hok j h1; omega
theorem RefTour.no {es : List EdgeD} {l : List Int} {w w' : World} {e : Ending} (h : RefTour es l w e w') (hok : ¬ legsOK (distV es) l (l.length - 1)) : e = .returned (.tuple #[.int .u64 0, .bool false]) ∧ Below w.heap.size w w' := by
  obtain ⟨⟨h1, _⟩ | ⟨_, h⟩, hb⟩ := h
  · exact absurd h1 hok
  · exact ⟨h, hb⟩
theorem maxV_nn (l : List Int) : 0 ≤ maxV l := by
  have key : ∀ (l : List Int) (m : Int), 0 ≤ m → 0 ≤ l.foldl max m := by
    intro l
    induction l with
    | nil => exact fun m h => h
    | cons x r ih => exact fun m h => ih _ (by omega)
  exact key l 0 (Int.le_refl _)
theorem center_bad (hv : Value) (k : Int) (lo : Option Addr) (lc : Nat) (l : List Int) (w : World) (hk : k ≠ 0) (ho : ∀ W, Below w.heap.size w W → Calls Tryz.prog 38 #[hv, .slice lo l.length lc, .slice lo l.length lc] W fun e w' => e = .returned (.tuple #[.slice none 0 0, .int .i64 k]) ∧ Below W.heap.size W w') :
    Calls Tryz.prog 43 #[hv, .slice lo l.length lc] w fun e w' => e = .returned (.tuple #[.int .i64 (-1), .int .u64 0, .bool false]) ∧ Below w.heap.size w w' := by
  have HO := Lib.hid (ho w (Below.refl _ _))
  have hne : (k != 0) = true := by simpa using hk
  clear ho hk
  go_enter Tryz.func43, Tryz.ntmps43
  go_upto_region 2 with (go_at_call 38; refine HO.out.mono ?_; rintro e w1 ⟨rfl, hb1⟩; (have HB1 := Lib.hid hb1); clear hb1)
  go_wp2
  refine wp_loop_rounds 1 ?_
  rw [rounds_succ]
  go_wp2
  refine bodyPost_ret (v := .tuple #[.int .i64 (-1), .int .u64 0, .bool false]) (by simp [results, Tryz.results43, go_sem]; try rfl) rfl ?_
  exact ⟨rfl, HB1.out⟩

set_option maxRecDepth 100000 in
set_option maxHeartbeats 4000000 in
theorem TableTours_any (g : GD) (ao : Option Addr) (cap : Nat) (h1 s1 : Int) (ro : Option Addr) (r : List Int) (rc : Nat) (lo : Option Addr) (l : List Int) (lc : Nat) (w : World) (hc : Cel w ao (flat g.es)) (hr : Cel w ro (r.map encI)) (hlc : Cel w lo (l.map encI)) (hcap : l.length ≤ lc) :
    Calls Tryz.prog 9 #[.agg #[.int .i64 g.n, .slice ao g.es.length cap], .agg #[.int .i64 h1, .int .i64 s1, .slice ro r.length rc], .slice lo l.length lc] w fun e w' => e = .returned (.bool true) ∧ Below w.heap.size w w' := by
  obtain ⟨V, hV⟩ : ∃ V, V = (w.alloc (Obj.cells #[.int .i64 g.n, .slice ao g.es.length cap] 24)).alloc (Obj.cells #[.int .i64 h1, .int .i64 s1, .slice ro r.length rc] 27) := ⟨_, rfl⟩
  have hbV : Below w.heap.size w V := by rw [hV]; exact (Below.of_al _ _).al _
  have HQ := Lib.hid (show QB1 V w.heap.size g ao cap h1 s1 ro r rc by rw [hV]; constructor <;> go_simp)
  have HAL := Lib.hid alive25_any
  have HLI := Lib.hid (light20_any g.n g.es ao cap V)
  have HB := Lib.hid hbV
  have HV := Lib.hid hV
  obtain ⟨p0, p1, p2, p3, p4⟩ := HQ.out
  have HCS := Lib.hid (And.intro (hc.go hbV) (hr.go hbV))
  have HLC := Lib.hid (hlc.go hbV)
  clear hbV hV hc hr hlc
  cases hl : light20 g.n g.es with
  | false =>
    rw [hl] at HLI
    clear hl
    go_enter Tryz.func9, Tryz.ntmps9
    go_upto_region 1 with (fail)
    rw [← HV.out]
    go_wp2_with (first
      | (go_at_call 14; refine HLI.out.mono ?_; rintro e w1 ⟨rfl, hb1⟩; (have HB1 := Lib.hid (HB.out.st hb1)); clear hb1)
      | (go_at_call 35; refine (HAL.out _).mono ?_; rintro e w2 ⟨rfl, hb2⟩; (have HB2 := Lib.hid (HB1.out.st hb2)); clear hb2))
    go_ret
    exact ⟨rfl, HB2.out⟩
  | true =>
    obtain ⟨hg, hes⟩ := light20_small hl
    have HG := Lib.hid hg
    rw [hl] at HLI
    clear hl hg
    by_cases hr6 : (60 : Int) < (r.length : Int)
    · go_enter Tryz.func9, Tryz.ntmps9
      go_upto_region 1 with (fail)
      rw [← HV.out]
      go_wp2_with (first
        | (go_at_call 14; refine HLI.out.mono ?_; rintro e w1 ⟨rfl, hb1⟩; (have HB1 := Lib.hid (HB.out.st hb1)); (have k4 := cell_later hb1 p4); clear hb1)
        | (go_at_call 35; refine (HAL.out _).mono ?_; rintro e w2 ⟨rfl, hb2⟩; (have HB2 := Lib.hid (HB1.out.st hb2)); clear hb2))
      go_ret
      exact ⟨rfl, HB2.out⟩
    · by_cases hl6 : (20 : Int) < (l.length : Int)
      · go_enter Tryz.func9, Tryz.ntmps9
        go_upto_region 1 with (fail)
        rw [← HV.out]
        go_wp2_with (first
          | (go_at_call 14; refine HLI.out.mono ?_; rintro e w1 ⟨rfl, hb1⟩; (have HB1 := Lib.hid (HB.out.st hb1)); (have k4 := cell_later hb1 p4); clear hb1)
          | (go_at_call 35; refine (HAL.out _).mono ?_; rintro e w2 ⟨rfl, hb2⟩; (have HB2 := Lib.hid (HB1.out.st hb2)); clear hb2))
        go_ret
        exact ⟨rfl, HB2.out⟩
      · · have HBA := Lib.hid (fun W (hz : Below V.heap.size V W) => built_any g ao ro cap rc h1 s1 r W (HCS.out.1.go hz) (HCS.out.2.go hz) (fun k => by have := HG.out k; omega) (by omega) (by omega))
          have HZ := Lib.hid (fun k : buildB g h1 s1 r = 0 => build_right k)
          have HL12 := Lib.hid (show l.length ≤ 20 by omega)
          generalize buildB g h1 s1 r = k1 at *
          by_cases e1 : k1 = 0
          · subst e1
            have hgz := HZ.out rfl
            have hn := HG.out hgz
            have hgn := right_n hgz
            obtain ⟨n, hnn⟩ : ∃ n : Nat, g.n = (n : Int) := ⟨g.n.toNat, by omega⟩
            obtain ⟨gn, es⟩ := g
            simp only at hnn hn hes
            subst hnn
            have hn12 : n ≤ 12 := by omega
            have hes40 : es.length ≤ 40 := by omega
            have HGZ := Lib.hid hgz
            clear hgz HZ
            go_enter Tryz.func9, Tryz.ntmps9
            go_upto_region 1 with (fail)
            rw [← HV.out]
            go_upto_region 3 with (go_at_call 14; refine HLI.out.mono ?_; rintro e w1 ⟨rfl, hb1⟩; (have HB1 := Lib.hid hb1); (obtain ⟨x0, x1, x2, x3, x4⟩ := HQ.out.go hb1); clear hb1)
            go_upto_region 4 with (go_at_call 16; refine (HBA.out _ HB1.out).mono ?_; rintro e w2 hp2; (obtain ⟨hb, R, S, po, rfl, hbh, hb2⟩ := hp2.good rfl HGZ.out hn); (have HH := Lib.hid (show BH w2 hb n es R S po from hbh)); (have HB2 := Lib.hid (HB1.out.st hb2)); (have z0 := cell_later hb2 x0); (have z1 := cell_later hb2 x1); clear hb2 hp2 hbh)
            clear x0 x1 x2 x3 x4 p0 p1 p2 p3 p4
            have hA1 : ∀ u v w, arcG es u v w → 1 ≤ w := (HH.out.ok.hierB false).pos
            have HWY := Lib.hid (fun W (hz : Below V.heap.size V W) => why_ok n ao es.length cap lo lc l W (HLC.out.go hz) (by have := HL12.out; omega))
            cases hno : l.any (outB n) with
            | true =>
              have hno2 : (l ++ l).any (outB n) = true := by rw [List.any_append, hno]; rfl
              rw [hno] at HWY
              simp only [if_true] at HWY
              have HCE := Lib.hid (fun W (hz : Below w2.heap.size w2 W) => center_bad (.pointer (some ⟨hb, 0, none⟩)) 7 lo lc l W (by decide) (fun W' hz' => of_off hb n es R S _ _ l l lo lo lc lc W' (HH.out.go (hz.st hz')).mem (HLC.out.go (HB2.out.st (hz.st hz'))) (HLC.out.go (HB2.out.st (hz.st hz'))) (by have := HL12.out; omega) (by have := HL12.out; omega) hno2))
              have HTO := Lib.hid (fun W (hz : Below w2.heap.size w2 W) => tour_off hb n es R S _ _ lo lc l W (HH.out.go hz).mem (by have := HL12.out; omega) (HLC.out.go (HB2.out.st hz)) hno)
              clear hno hno2 hA1
              go_wp2_with (first
                | (go_at_call 43; refine (HCE.out _ (Below.refl _ _)).mono ?_; rintro e w3 ⟨rfl, hb3⟩; (have HB3 := Lib.hid hb3); (have z2 := cell_later hb3 z0); (have z3 := cell_later hb3 z1); clear hb3)
                | (go_at_call 37; refine (HTO.out _ HB3.out).mono ?_; rintro e w4 ⟨rfl, hb4⟩; (have HB4 := Lib.hid (HB3.out.st hb4)); (have z4 := cell_later hb4 z2); (have z5 := cell_later hb4 z3); clear hb4)
                | (go_at_call 44; refine (HWY.out _ (HB2.out.st HB4.out)).mono ?_; rintro e w5 ⟨rfl, hb5⟩; (have HB5 := Lib.hid (HB4.out.st hb5)); clear hb5)
                | (go_at_call 35; refine (HAL.out _).mono ?_; rintro e w6 ⟨rfl, hb6⟩; (have HB6 := Lib.hid (HB5.out.st hb6)); clear hb6))
              go_ret
              exact ⟨rfl, HB.out.st (HB2.out.st HB6.out)⟩
            | false =>
              rw [hno] at HWY
              simp only [Bool.false_eq_true, if_false] at HWY
              have hnod := outB_no.1 hno
              have HCE := Lib.hid (center_any hb n es R S po lo lc l w2 HH.out (by have := HL12.out; omega) (HLC.out.go HB2.out) hnod)
              have HTO := Lib.hid (fun W (hz : Below w2.heap.size w2 W) => tour_any hb n es R S po lo lc l W (HH.out.go hz) (by have := HL12.out; omega) hcap (HLC.out.go (HB2.out.st hz)) hnod)
              have HND := Lib.hid hnod
              have HA1 := Lib.hid hA1
              have hcn := (cenF_in (distV es) l (fun k => maxV_nn _) l.length).1
              have HRC := Lib.hid (fun W (hz : Below V.heap.size V W) => refCenter_any n es ao cap lo lc l W HGZ.out hn12 hes40 (HCS.out.1.go hz) (HLC.out.go hz) (by have := HL12.out; omega) hnod hA1)
              unfold CenterPost at HCE
              clear hno hnod hA1
              generalize cenF (distV es) l l.length = c at *
              obtain ⟨cb, cm⟩ := c
              simp only at HCE HRC hcn
              by_cases hok : legsOK (distV es) l (l.length - 1)
              · have HOK := Lib.hid hok
                clear hok
                by_cases e1 : cb = -1
                · subst e1
                  simp only [ne_eq, not_true, decide_false, if_true] at HCE
                  clear hcn
                  go_upto_region 5 with (go_at_call 43; refine HCE.out.mono ?_; rintro e w3 ⟨rfl, k1, k2⟩; (have HB3 := Lib.hid k2); (have HD3 := Lib.hid k1); (have z2 := cell_later k2 z0); (have z3 := cell_later k2 z1); clear k1 k2)
                  have HRT := Lib.hid (fun W (hz : Below V.heap.size V W) => refTour_any n es ao cap lo lc l W HGZ.out hn12 hes40 (HCS.out.1.go hz) (HLC.out.go hz) (by have := HL12.out; omega) HND.out HA1.out (fun j hj => by
                    have h9 := HD3.out j (j + 1) (by omega) (by omega)
                    rw [show l.getD j 0 = l[j] by simp [List.getD, show j < l.length by omega], show l.getD (j + 1) 0 = l[j + 1] by simp [List.getD, show j + 1 < l.length by omega]]
                    exact h9))
                  go_wp2_with (first
                    | (go_at_call 37; refine (HTO.out _ HB3.out).mono ?_; rintro e w4 h4; obtain ⟨rfl, hb4⟩ := TourPost.yes h4 HOK.out; (have HB4 := Lib.hid (HB3.out.st hb4)); (have z4 := cell_later hb4 z2); (have z5 := cell_later hb4 z3); clear hb4 h4)
                    | (go_at_call 44; refine (HWY.out _ (HB2.out.st HB4.out)).mono ?_; rintro e w5 ⟨rfl, hb5⟩; (have HB5 := Lib.hid (HB4.out.st hb5)); (have z6 := cell_later hb5 z4); (have z7 := cell_later hb5 z5); clear hb5)
                    | (go_at_call 45; refine (HRC.out _ (HB2.out.st HB5.out)).mono ?_; rintro e w6 ⟨rfl, hb6⟩; (have HB6 := Lib.hid (HB5.out.st hb6)); (have z8 := cell_later hb6 z6); (have z9 := cell_later hb6 z7); clear hb6)
                    | (go_at_call 46; refine (HRT.out _ (HB2.out.st HB6.out)).mono ?_; rintro e w7 h7; obtain ⟨rfl, hb7⟩ := RefTour.yes h7 HOK.out; (have HB7 := Lib.hid (HB6.out.st hb7)); clear hb7 h7)
                    | (go_at_call 35; refine (HAL.out _).mono ?_; rintro e w8 ⟨rfl, hb8⟩; (have HB8 := Lib.hid (HB7.out.st hb8)); clear hb8))
                  go_ret
                  exact ⟨rfl, HB.out.st (HB2.out.st HB8.out)⟩
                · have hge : (0 : Int) ≤ cb := by omega
                  simp only [ne_eq, e1, not_false_iff, decide_true, if_false] at HCE
                  clear e1 hcn
                  go_upto_region 5 with (go_at_call 43; refine HCE.out.mono ?_; rintro e w3 ⟨rfl, k1, k2⟩; (have HB3 := Lib.hid k2); (have HD3 := Lib.hid k1); (have z2 := cell_later k2 z0); (have z3 := cell_later k2 z1); clear k1 k2)
                  have HRT := Lib.hid (fun W (hz : Below V.heap.size V W) => refTour_any n es ao cap lo lc l W HGZ.out hn12 hes40 (HCS.out.1.go hz) (HLC.out.go hz) (by have := HL12.out; omega) HND.out HA1.out (fun j hj => by
                    have h9 := HD3.out j (j + 1) (by omega) (by omega)
                    rw [show l.getD j 0 = l[j] by simp [List.getD, show j < l.length by omega], show l.getD (j + 1) 0 = l[j + 1] by simp [List.getD, show j + 1 < l.length by omega]]
                    exact h9))
                  go_wp2_with (first
                    | (go_at_call 37; refine (HTO.out _ HB3.out).mono ?_; rintro e w4 h4; obtain ⟨rfl, hb4⟩ := TourPost.yes h4 HOK.out; (have HB4 := Lib.hid (HB3.out.st hb4)); (have z4 := cell_later hb4 z2); (have z5 := cell_later hb4 z3); clear hb4 h4)
                    | (go_at_call 44; refine (HWY.out _ (HB2.out.st HB4.out)).mono ?_; rintro e w5 ⟨rfl, hb5⟩; (have HB5 := Lib.hid (HB4.out.st hb5)); (have z6 := cell_later hb5 z4); (have z7 := cell_later hb5 z5); clear hb5)
                    | (go_at_call 45; refine (HRC.out _ (HB2.out.st HB5.out)).mono ?_; rintro e w6 ⟨rfl, hb6⟩; (have HB6 := Lib.hid (HB5.out.st hb6)); (have z8 := cell_later hb6 z6); (have z9 := cell_later hb6 z7); clear hb6)
                    | (go_at_call 46; refine (HRT.out _ (HB2.out.st HB6.out)).mono ?_; rintro e w7 h7; obtain ⟨rfl, hb7⟩ := RefTour.yes h7 HOK.out; (have HB7 := Lib.hid (HB6.out.st hb7)); clear hb7 h7)
                    | (go_at_call 35; refine (HAL.out _).mono ?_; rintro e w8 ⟨rfl, hb8⟩; (have HB8 := Lib.hid (HB7.out.st hb8)); clear hb8))
                  go_ret
                  exact ⟨rfl, HB.out.st (HB2.out.st HB8.out)⟩
              · have HOK := Lib.hid hok
                clear hok
                by_cases e1 : cb = -1
                · subst e1
                  simp only [ne_eq, not_true, decide_false, if_true] at HCE
                  clear hcn
                  go_upto_region 5 with (go_at_call 43; refine HCE.out.mono ?_; rintro e w3 ⟨rfl, k1, k2⟩; (have HB3 := Lib.hid k2); (have HD3 := Lib.hid k1); (have z2 := cell_later k2 z0); (have z3 := cell_later k2 z1); clear k1 k2)
                  have HRT := Lib.hid (fun W (hz : Below V.heap.size V W) => refTour_any n es ao cap lo lc l W HGZ.out hn12 hes40 (HCS.out.1.go hz) (HLC.out.go hz) (by have := HL12.out; omega) HND.out HA1.out (fun j hj => by
                    have h9 := HD3.out j (j + 1) (by omega) (by omega)
                    rw [show l.getD j 0 = l[j] by simp [List.getD, show j < l.length by omega], show l.getD (j + 1) 0 = l[j + 1] by simp [List.getD, show j + 1 < l.length by omega]]
                    exact h9))
                  go_wp2_with (first
                    | (go_at_call 37; refine (HTO.out _ HB3.out).mono ?_; rintro e w4 h4; obtain ⟨rfl, hb4⟩ := TourPost.no h4 HOK.out; (have HB4 := Lib.hid (HB3.out.st hb4)); (have z4 := cell_later hb4 z2); (have z5 := cell_later hb4 z3); clear hb4 h4)
                    | (go_at_call 44; refine (HWY.out _ (HB2.out.st HB4.out)).mono ?_; rintro e w5 ⟨rfl, hb5⟩; (have HB5 := Lib.hid (HB4.out.st hb5)); (have z6 := cell_later hb5 z4); (have z7 := cell_later hb5 z5); clear hb5)
                    | (go_at_call 45; refine (HRC.out _ (HB2.out.st HB5.out)).mono ?_; rintro e w6 ⟨rfl, hb6⟩; (have HB6 := Lib.hid (HB5.out.st hb6)); (have z8 := cell_later hb6 z6); (have z9 := cell_later hb6 z7); clear hb6)
                    | (go_at_call 46; refine (HRT.out _ (HB2.out.st HB6.out)).mono ?_; rintro e w7 h7; obtain ⟨rfl, hb7⟩ := RefTour.no h7 HOK.out; (have HB7 := Lib.hid (HB6.out.st hb7)); clear hb7 h7)
                    | (go_at_call 35; refine (HAL.out _).mono ?_; rintro e w8 ⟨rfl, hb8⟩; (have HB8 := Lib.hid (HB7.out.st hb8)); clear hb8))
                  go_ret
                  exact ⟨rfl, HB.out.st (HB2.out.st HB8.out)⟩
                · have hge : (0 : Int) ≤ cb := by omega
                  simp only [ne_eq, e1, not_false_iff, decide_true, if_false] at HCE
                  clear e1 hcn
                  go_upto_region 5 with (go_at_call 43; refine HCE.out.mono ?_; rintro e w3 ⟨rfl, k1, k2⟩; (have HB3 := Lib.hid k2); (have HD3 := Lib.hid k1); (have z2 := cell_later k2 z0); (have z3 := cell_later k2 z1); clear k1 k2)
                  have HRT := Lib.hid (fun W (hz : Below V.heap.size V W) => refTour_any n es ao cap lo lc l W HGZ.out hn12 hes40 (HCS.out.1.go hz) (HLC.out.go hz) (by have := HL12.out; omega) HND.out HA1.out (fun j hj => by
                    have h9 := HD3.out j (j + 1) (by omega) (by omega)
                    rw [show l.getD j 0 = l[j] by simp [List.getD, show j < l.length by omega], show l.getD (j + 1) 0 = l[j + 1] by simp [List.getD, show j + 1 < l.length by omega]]
                    exact h9))
                  go_wp2_with (first
                    | (go_at_call 37; refine (HTO.out _ HB3.out).mono ?_; rintro e w4 h4; obtain ⟨rfl, hb4⟩ := TourPost.no h4 HOK.out; (have HB4 := Lib.hid (HB3.out.st hb4)); (have z4 := cell_later hb4 z2); (have z5 := cell_later hb4 z3); clear hb4 h4)
                    | (go_at_call 44; refine (HWY.out _ (HB2.out.st HB4.out)).mono ?_; rintro e w5 ⟨rfl, hb5⟩; (have HB5 := Lib.hid (HB4.out.st hb5)); (have z6 := cell_later hb5 z4); (have z7 := cell_later hb5 z5); clear hb5)
                    | (go_at_call 45; refine (HRC.out _ (HB2.out.st HB5.out)).mono ?_; rintro e w6 ⟨rfl, hb6⟩; (have HB6 := Lib.hid (HB5.out.st hb6)); (have z8 := cell_later hb6 z6); (have z9 := cell_later hb6 z7); clear hb6)
                    | (go_at_call 46; refine (HRT.out _ (HB2.out.st HB6.out)).mono ?_; rintro e w7 h7; obtain ⟨rfl, hb7⟩ := RefTour.no h7 HOK.out; (have HB7 := Lib.hid (HB6.out.st hb7)); clear hb7 h7)
                    | (go_at_call 35; refine (HAL.out _).mono ?_; rintro e w8 ⟨rfl, hb8⟩; (have HB8 := Lib.hid (HB7.out.st hb8)); clear hb8))
                  go_ret
                  exact ⟨rfl, HB.out.st (HB2.out.st HB8.out)⟩
          · have HE := Lib.hid e1
            have hk1 : (k1 != 0) = true := by simpa using e1
            have HCE := Lib.hid (fun W (hz : Below V.heap.size V W) => center_bad (.pointer none) 1 lo lc l W (by decide) (fun W' hz' => of_nil l l lo lo lc lc W' (HLC.out.go (hz.st hz')) (HLC.out.go (hz.st hz')) (by have := HL12.out; omega) (by have := HL12.out; omega)))
            have HTO := Lib.hid (fun v W => tour_nil v W)
            have HWY := Lib.hid (fun a b v W => why_bad a b v k1 W e1)
            clear e1
            go_enter Tryz.func9, Tryz.ntmps9
            go_upto_region 1 with (fail)
            rw [← HV.out]
            go_wp2_with (first
              | (go_at_call 14; refine HLI.out.mono ?_; rintro e w1 ⟨rfl, hb1⟩; (have HB1 := Lib.hid hb1); (obtain ⟨x0, x1, x2, x3, x4⟩ := HQ.out.go hb1); clear hb1)
              | (go_at_call 16; refine (HBA.out _ HB1.out).mono ?_; rintro e w2 hp2; (obtain ⟨rfl, hb2⟩ := hp2.nil HE.out); (have HB2 := Lib.hid (HB1.out.st hb2)); (have z0 := cell_later hb2 x0); (have z1 := cell_later hb2 x1); clear hb2 hp2)
              | (go_at_call 43; refine (HCE.out _ HB2.out).mono ?_; rintro e w3 ⟨rfl, hb3⟩; (have HB3 := Lib.hid (HB2.out.st hb3)); (have z2 := cell_later hb3 z0); (have z3 := cell_later hb3 z1); clear hb3)
              | (go_at_call 37; refine (HTO.out _ _).mono ?_; rintro e w4 ⟨rfl, hb4⟩; (have HB4 := Lib.hid (HB3.out.st hb4)); (have z4 := cell_later hb4 z2); (have z5 := cell_later hb4 z3); clear hb4)
              | (go_at_call 44; refine (HWY.out _ _ _ _).mono ?_; rintro e w5 ⟨rfl, hb5⟩; (have HB5 := Lib.hid (HB4.out.st hb5)); clear hb5)
              | (go_at_call 35; refine (HAL.out _).mono ?_; rintro e w6 ⟨rfl, hb6⟩; (have HB6 := Lib.hid (HB5.out.st hb6)); clear hb6))
            go_ret
            exact ⟨rfl, HB.out.st HB6.out⟩
end Go.Proofs.YtkdomobedfhhgaaGreat
