/-
  Walk of the law UpwardWays.
-/
import Derived.Test.YtkdomobedfhhgaaGreatProg
import Derived.Test.YtkdomobedfhhgaaGreatQi02
import Derived.Test.YtkdomobedfhhgaaGreatQe02
import Derived.Test.YtkdomobedfhhgaaGreatQc03
import Derived.Test.YtkdomobedfhhgaaGreatQf02
set_option linter.unusedVariables false
set_option linter.unusedSimpArgs false
set_option linter.unnecessarySimpa false
namespace Go.Proofs.YtkdomobedfhhgaaGreat
open Go Go.Proofs Go.RowKit Go.Shelf Go.Proofs.YtkdomobedfhhgaaGreat.Hp Go.Proofs.YtkdomobedfhhgaaGreat.Ch

set_option maxHeartbeats 1000000 in
theorem refCount0_any (l : List Int) (x : Int) (ao : Option Addr) (cap : Nat) (w : World) (hc : Cel w ao (l.map encI)) (hl : l.length ≤ 1000000) (hx : ∀ y ∈ l, y ≠ x) :
    Calls Tryz.prog 42 #[.slice ao l.length cap, .int .i64 x] w fun e w' => e = .returned (.int .i64 0) ∧ w = w' := by
  have HC := Lib.hid hc
  have HX := Lib.hid hx
  have hl2 : (l.length : Int) ≤ 1000000 := by omega
  clear hc hx
  go_enter Tryz.func42, Tryz.ntmps42
  go_wp2
  go_loopg [5, 6] l.length (fun gg v5 v6 wr => ∃ k : Nat, k ≤ l.length ∧ l.length - k ≤ gg ∧ v6 = .int .i64 k ∧ v5 = .int .i64 0 ∧ wr = w)
  case atStart => exact ⟨0, Nat.zero_le _, by omega, rfl, rfl, rfl⟩
  case round =>
    obtain ⟨k, hk, hgg, rfl, rfl, rfl⟩ := hrel
    by_cases hlt : k < l.length
    · have hlt3 : (k : Int) < (l.length : Int) := by omega
      have hk0 : (0 : Int) ≤ (k : Int) := by omega
      obtain ⟨b, o, rfl, y0⟩ := HC.out.at hlt
      have hne : (l[k] == x) = false := by rw [beq_eq_false_iff_ne]; exact HX.out _ (List.getElem_mem hlt)
      generalize l[k] = y at *
      go_wp2
      go_roundg (l.length - (k + 1))
      case measure => omega
      case rel => exact ⟨k + 1, by omega, Nat.le_refl _, by go_num, rfl, rfl⟩
    · obtain rfl : k = l.length := by omega
      go_wp2
      go_ret
      exact ⟨rfl, rfl⟩
set_option maxRecDepth 100000 in
set_option maxHeartbeats 4000000 in
theorem UpwardWays_any (g : GD) (ao : Option Addr) (cap : Nat) (h1 s1 : Int) (ro : Option Addr) (r : List Int) (rc : Nat) (s v : Int) (back : Bool) (oo : Option Addr) (odd : List LB) (oc : Nat) (w : World) (hc : Cel w ao (flat g.es)) (hr : Cel w ro (r.map encI)) (ho : Cel w oo (flatB odd)) :
    Calls Tryz.prog 8 #[.agg #[.int .i64 g.n, .slice ao g.es.length cap], .agg #[.int .i64 h1, .int .i64 s1, .slice ro r.length rc], .int .i64 s, .int .i64 v, .bool back, .slice oo odd.length oc] w fun e w' => e = .returned (.bool true) ∧ Below w.heap.size w w' := by
  obtain ⟨V, hV⟩ : ∃ V, V = (w.alloc (Obj.cells #[.int .i64 g.n, .slice ao g.es.length cap] 24)).alloc (Obj.cells #[.int .i64 h1, .int .i64 s1, .slice ro r.length rc] 27) := ⟨_, rfl⟩
  have hbV : Below w.heap.size w V := by rw [hV]; exact (Below.of_al _ _).al _
  have HQ := Lib.hid (show QB1 V w.heap.size g ao cap h1 s1 ro r rc by rw [hV]; constructor <;> go_simp)
  have HAL := Lib.hid alive22_any
  have HLI := Lib.hid (light20_any g.n g.es ao cap V)
  have HB := Lib.hid hbV
  have HV := Lib.hid hV
  obtain ⟨p0, p1, p2, p3, p4⟩ := HQ.out
  have HCS := Lib.hid (And.intro (hc.go hbV) (hr.go hbV))
  have HOD := Lib.hid (ho.go hbV)
  clear hbV hV hc hr ho
  cases hl : light20 g.n g.es with
  | false =>
    rw [hl] at HLI
    clear hl
    go_enter Tryz.func8, Tryz.ntmps8
    go_upto_region 1 with (fail)
    rw [← HV.out]
    go_wp2_with (first
      | (go_at_call 14; refine HLI.out.mono ?_; rintro e w1 ⟨rfl, hb1⟩; (have HB1 := Lib.hid (HB.out.st hb1)); clear hb1)
      | (go_at_call 28; refine (HAL.out _).mono ?_; rintro e w2 ⟨rfl, hb2⟩; (have HB2 := Lib.hid (HB1.out.st hb2)); clear hb2))
    go_ret
    exact ⟨rfl, HB2.out⟩
  | true =>
    obtain ⟨hg, hes⟩ := light20_small hl
    have HG := Lib.hid hg
    rw [hl] at HLI
    clear hl hg
    by_cases hr6 : (60 : Int) < (r.length : Int)
    · go_enter Tryz.func8, Tryz.ntmps8
      go_upto_region 1 with (fail)
      rw [← HV.out]
      go_wp2_with (first
        | (go_at_call 14; refine HLI.out.mono ?_; rintro e w1 ⟨rfl, hb1⟩; (have HB1 := Lib.hid (HB.out.st hb1)); (have k4 := cell_later hb1 p4); clear hb1)
        | (go_at_call 28; refine (HAL.out _).mono ?_; rintro e w2 ⟨rfl, hb2⟩; (have HB2 := Lib.hid (HB1.out.st hb2)); clear hb2))
      go_ret
      exact ⟨rfl, HB2.out⟩
    · by_cases ho6 : (60 : Int) < (odd.length : Int)
      · go_enter Tryz.func8, Tryz.ntmps8
        go_upto_region 1 with (fail)
        rw [← HV.out]
        go_wp2_with (first
          | (go_at_call 14; refine HLI.out.mono ?_; rintro e w1 ⟨rfl, hb1⟩; (have HB1 := Lib.hid (HB.out.st hb1)); (have k4 := cell_later hb1 p4); clear hb1)
          | (go_at_call 28; refine (HAL.out _).mono ?_; rintro e w2 ⟨rfl, hb2⟩; (have HB2 := Lib.hid (HB1.out.st hb2)); clear hb2))
        go_ret
        exact ⟨rfl, HB2.out⟩
      · have HBA := Lib.hid (fun W (hz : Below V.heap.size V W) => built_any g ao ro cap rc h1 s1 r W (HCS.out.1.go hz) (HCS.out.2.go hz) (fun k => by have := HG.out k; omega) (by omega) (by omega))
        have HZ := Lib.hid (fun k : buildB g h1 s1 r = 0 => build_right k)
        generalize buildB g h1 s1 r = k1 at *
        by_cases e1 : k1 = 0
        · subst e1
          have hgz := HZ.out rfl
          have hn := HG.out hgz
          have hgn := right_n hgz
          obtain ⟨n, hnn⟩ : ∃ n : Nat, g.n = (n : Int) := ⟨g.n.toNat, by omega⟩
          obtain ⟨gn, es⟩ := g
          simp only at hnn hn hes
          subst hnn
          have hn12 : n ≤ 12 := by omega
          have hes40 : es.length ≤ 40 := by omega
          have HGZ := Lib.hid hgz
          clear hgz HZ
          go_enter Tryz.func8, Tryz.ntmps8
          go_upto_region 1 with (fail)
          rw [← HV.out]
          go_upto_region 3 with (go_at_call 14; refine HLI.out.mono ?_; rintro e w1 ⟨rfl, hb1⟩; (have HB1 := Lib.hid hb1); (obtain ⟨x0, x1, x2, x3, x4⟩ := HQ.out.go hb1); clear hb1)
          go_upto_region 4 with (go_at_call 16; refine (HBA.out _ HB1.out).mono ?_; rintro e w2 hp2; (obtain ⟨hb, R, S, po, rfl, hbh, hb2⟩ := hp2.good rfl HGZ.out hn); (have HH := Lib.hid (show BH w2 hb n es R S po from hbh)); (have HB2 := Lib.hid (HB1.out.st hb2)); (have z0 := cell_later hb2 x0); (have z1 := cell_later hb2 x1); clear hb2 hp2 hbh)
          clear x0 x1 x2 x3 x4 p0 p1 p2 p3 p4
          by_cases hs : s < 0 ∨ (n : Int) ≤ s
          · rcases hs with hs | hs
            · go_wp2_with (go_at_call 28; refine (HAL.out _).mono ?_; rintro e w4 ⟨rfl, hb4⟩; (have HB4 := Lib.hid (HB2.out.st hb4)); clear hb4)
              go_ret
              exact ⟨rfl, HB.out.st HB4.out⟩
            · have hs0 : ¬ s < 0 := by omega
              go_wp2_with (go_at_call 28; refine (HAL.out _).mono ?_; rintro e w4 ⟨rfl, hb4⟩; (have HB4 := Lib.hid (HB2.out.st hb4)); clear hb4)
              go_ret
              exact ⟨rfl, HB.out.st HB4.out⟩
          · obtain ⟨u, rfl⟩ : ∃ u : Nat, s = u := ⟨s.toNat, by omega⟩
            have hu : u < n := by omega
            have HSA := Lib.hid (exact_any hb n es R S po back u w2 HH.out.mem HH.out.ok HH.out.le hu)
            unfold ExactPost at HSA
            have hs0 : (0 : Int) ≤ (u : Int) := by omega
            have hs1 : (u : Int) < (n : Int) := by omega
            clear hs
            go_upto_region 7 with (go_at_call 33; refine HSA.out.mono ?_; rintro e w3 ⟨la, lc, l, rfl, k1, k2, k3, k4, k5, k6⟩; (have HC3 := Lib.hid k1); (have HB3 := Lib.hid (HB2.out.st k2)); (have HX3 := Lib.hid k3); (have HW3 := Lib.hid k4); (have HL3 := Lib.hid (And.intro k5 k6)); (have HH3 := Lib.hid (HH.out.go k2)); (have c0 := cell_later k2 z0); (have c1 := cell_later k2 z1); clear k1 k2 k3 k4 k5 k6)
            have hendS : ∀ x ∈ S, nodeN n x.f ∧ nodeN n x.t := fun x hx => ⟨(HH.out.ok.ends x hx).1, (HH.out.ok.ends x hx).2.1⟩
            have HFD := Lib.hid (find_any l la lc v w3 HC3.out (by have := HL3.out.1; omega))
            have HWY := Lib.hid (fun W (hz : Below w3.heap.size w3 W) => way_any hb n es R S _ _ l la lc v back W (HH3.out.go hz).mem hendS (HC3.out.go hz) (by have := HL3.out.1; omega))
            have HWO := Lib.hid (fun W (hz : Below w3.heap.size w3 W) => way_any hb n es R S _ _ odd oo oc v back W (HH3.out.go hz).mem hendS ((HOD.out.go HB3.out).go hz) (by omega))
            have HWK := Lib.hid (fun (hi : labIs l v = true) => way_ok HH.out.ok HX3.out HW3.out (fun a ha => (HL3.out.2 a ha).1) l.length v [] hi (cntR_le _ _ _))
            have HWM := Lib.hid (fun (hi : labIs l v = false) => wayF_miss (S := S) (back := back) (left := l.length) (out := []) hi)
            have HWL := Lib.hid (fun o (h : wayF S odd back odd.length v [] = some o) => wayF_len _ _ _ _ h)
            have HNV := Lib.hid (fun (hi : labIs l v = true) => (show nodeN n v ∧ (labAt l v).d ≤ 211106232532992 from by
              obtain ⟨_, k2, k3⟩ := labIs_some hi
              have k4 := HL3.out.2 _ k2
              rw [k3] at k4
              exact ⟨k4.1, k4.2.2⟩))
            have HSC := Lib.hid (fun i hi W (hz : Below w3.heap.size w3 W) => shortcut_any hb n es R S _ _ W (HH3.out.go hz).mem i hi)
            have HS0 := Lib.hid (show ∀ x ∈ S, 0 ≤ x.w from fun x hx => by have := (HH.out.ok.ends x hx).2.2.2; omega)
            have HRG := Lib.hid (fun W (hz : Below V.heap.size V W) => refRightG_any ⟨(n : Int), es⟩ ao cap W (by show es.length ≤ _; omega) (HCS.out.1.go hz))
            rw [HGZ.out] at HRG
            have hodl : (odd.length : Int) ≤ 60 := by omega
            have hll : l.length ≤ 12 := by have := HL3.out.1; omega
            unfold WayPost at HWY HWO
            clear hendS HX3 HW3 HC3 HSA HBA z0 z1
            generalize wayF S odd back odd.length v [] = res2 at *
            generalize hres : wayF S l back l.length v [] = res1 at *
            have HRES := Lib.hid hres
            clear hres
            generalize labAt l v = y at *
            generalize labIs l v = isv at *
            obtain ⟨yv, yd, yb⟩ := y
            simp only [encL] at HFD
            simp only at HWK HNV
            go_upto_region 8 with (go_at_call 31; refine HFD.out.mono ?_; rintro e w4 ⟨rfl, hb4⟩; (have HB4 := Lib.hid hb4); (have d0 := cell_later hb4 c0); (have d1 := cell_later hb4 c1); clear hb4)
            obtain ⟨W5, hW5⟩ : ∃ W5, W5 = w4.alloc (Obj.cells #[.int .i64 yv, .int .u64 yd, .int .i64 yb] 64) := ⟨_, rfl⟩
            rw [← hW5]
            have hb5 : Below w4.heap.size w4 W5 := by rw [hW5]; exact Below.of_al _ _
            have y5 : W5.cell? ⟨w4.heap.size, 1, none⟩ = some (.int .u64 yd) := by rw [hW5]; go_simp
            have f0 := cell_later hb5 d0
            have f1 := cell_later hb5 d1
            have HB5 := Lib.hid (HB4.out.st hb5)
            clear hW5 hb5 c0 c1 d0 d1 HFD HB4
            go_upto_region 9 with (go_at_call 39; refine (HWY.out _ HB5.out).mono ?_; rintro e w6 ⟨oa, oc6, o, b, rfl, k1, k2, k3⟩; (have HCO := Lib.hid k1); (have HB6 := Lib.hid (HB5.out.st k2)); (have HR6 := Lib.hid k3); (have g0 := cell_later k2 f0); (have g1 := cell_later k2 f1); (have y6 := cell_later k2 y5); clear k1 k2 k3)
            go_upto_region 10 with (go_at_call 39; refine (HWO.out _ HB6.out).mono ?_; rintro e w7 ⟨xa, xc, x, bx, rfl, k1, k2, k3⟩; (have HCO7 := Lib.hid (HCO.out.go k2)); (have HB7 := Lib.hid (HB6.out.st k2)); (have HR7 := Lib.hid k3); (have m0 := cell_later k2 g0); (have m1 := cell_later k2 g1); (have y7 := cell_later k2 y6); clear k1 k2 k3)
            have hx3 : (bx = true ∧ 0 < x.length ∧ x.length < odd.length) ∨ (bx = true ∧ x = []) ∨ (bx = false ∧ x = []) := by
              rcases HR7.out with ⟨h1, h2⟩ | ⟨h1, h2, h3⟩
              · have h3 := HWL.out x h1
                rw [List.length_nil] at h3
                by_cases h4 : x = []
                · exact .inr (.inl ⟨h2, h4⟩)
                · exact .inl ⟨h2, List.length_pos_iff.2 h4, by omega⟩
              · exact .inr (.inr ⟨h3, h2⟩)
            clear f0 f1 g0 g1 y5 y6 HR7 HWL HWO HWY HCO
            go_cut [110] from 29 (fun v110 wc => v110 = .bool false ∧ wc = w7)
            case first =>
              rcases hx3 with ⟨rfl, h1, h2⟩ | ⟨rfl, rfl⟩ | ⟨rfl, rfl⟩
              · have h3 : (0 : Int) < (x.length : Int) := by omega
                have h4 : ¬ (odd.length : Int) ≤ (x.length : Int) := by omega
                have HXL := Lib.hid h2
                clear h1 h2 h4
                go_wp2_with fail
                go_meet
                exact ⟨congrArg Value.bool (decide_eq_false (by have := HXL.out; omega)), rfl⟩
              · go_wp2_with fail
                go_meet
                exact ⟨rfl, rfl⟩
              · go_wp2_with fail
                go_meet
                exact ⟨rfl, rfl⟩
            case rest =>
              clear hx3
              obtain ⟨rfl, rfl⟩ := hcut
              cases isv with
              | false =>
                have hob : o = [] ∧ b = false := by
                  rcases HR6.out with ⟨h, _⟩ | ⟨_, h1, h2⟩
                  · rw [HWM.out rfl] at h
                    cases h
                  · exact ⟨h1, h2⟩
                obtain ⟨rfl, rfl⟩ := hob
                clear HR6 HWM HWK HNV
                go_wp2_with (go_at_call 28; refine (HAL.out _).mono ?_; rintro e w8 ⟨rfl, hb8⟩; (have HB8 := Lib.hid (HB7.out.st hb8)); clear hb8)
                go_ret
                exact ⟨rfl, HB.out.st (HB3.out.st HB8.out)⟩
              | true =>
                obtain ⟨p, hp1, hp2⟩ := HWK.out rfl
                have hob : o = (if back then [] ++ p else p ++ [].reverse) ∧ b = true := by
                  rcases HR6.out with ⟨h, h2⟩ | ⟨h, _⟩
                  · rw [hp1] at h
                    exact ⟨(Option.some.inj h).symm, h2⟩
                  · rw [hp1] at h
                    cases h
                have hol : o.length ≤ 60000 := by
                  rcases HR6.out with ⟨h, _⟩ | ⟨_, h, _⟩
                  · subst h
                    have := wayF_len l.length v [] o HRES.out
                    rw [List.length_nil] at this
                    omega
                  · rw [h]; exact Nat.zero_le _
                obtain ⟨⟨v0, v1⟩, hyd⟩ := HNV.out rfl
                obtain ⟨hob1, rfl⟩ := hob
                obtain ⟨vn, rfl⟩ : ∃ vn : Nat, v = vn := ⟨v.toNat, by omega⟩
                have hol2 : (o.length : Int) ≤ 60000 := by omega
                clear HR6 HWM HWK HNV hp1 HRES
                cases back with
                | true =>
                  simp only [if_true, List.nil_append] at hob1 hp2
                  subst hob1
                  have HPL := Lib.hid hp2
                  clear hp2
                  go_wp2
                  go_loopg [23, 24, 25] o.length (fun gg v23 v24 v25 wr => ∃ (k : Nat) (x d1 d2 : Int), k ≤ o.length ∧ o.length - k ≤ gg ∧ v25 = .int .i64 k ∧ v23 = .int .i64 x ∧ v24 = .int .u64 d1 ∧ 0 ≤ d1 ∧ Aside (d1 + d2 = yd ∧ PathL S (vn : Int) x d1 (o.take k) ∧ PathL S x (u : Int) d2 (o.drop k)) ∧ Aside (Below wc.heap.size wc wr))
                  case atStart => exact ⟨0, (vn : Int), 0, yd, Nat.zero_le _, by omega, rfl, rfl, rfl, Int.le_refl _, ⟨by omega, by rw [List.take_zero]; exact .nil _, by rw [List.drop_zero]; exact HPL.out⟩, Below.refl _ _⟩
                  case round =>
                    obtain ⟨k, x, d1, d2, hk, hgg, rfl, rfl, rfl, hd1, HPP, HBr⟩ := hrel
                    by_cases hlt : k < o.length
                    · have hlt3 : (k : Int) < (o.length : Int) := by omega
                      have hk0 : (0 : Int) ≤ (k : Int) := by omega
                      obtain ⟨hsum, hp1, hp2⟩ := HPP.out
                      rw [List.drop_eq_getElem_cons hlt] at hp2
                      obtain ⟨j, hj, d', hpk, hxf, hd2, hp3⟩ := hp2.uncons
                      have hd0 := hp3.ge HS0.out
                      have hw0 := HS0.out _ (List.getElem_mem hj)
                      have HP4 := Lib.hid (show PathL S (vn : Int) S[j].t (d1 + S[j].w) (o.take (k + 1)) by
                        rw [List.take_succ_eq_append_getElem hlt, hpk]
                        exact hp1.snoc hj hxf.symm)
                      have HP5 := Lib.hid hp3
                      obtain ⟨ob, oo2, rfl, y0⟩ := (HCO7.out.go HBr.out).at hlt
                      rw [hpk] at y0
                      have HSJ := Lib.hid (HSC.out j hj wr (HB7.out.st HBr.out))
                      have HSM := Lib.hid hsum
                      have HD2 := Lib.hid hd2
                      have hwb : d1 + S[j].w ≤ 211106232532992 := by omega
                      subst hxf
                      clear hp1 hp2 hp3 hsum hd2 hpk HPP
                      generalize S[j] = s9 at *
                      obtain ⟨xf, xt, xw, xe, xa, xb⟩ := s9
                      simp only [scV] at HSJ HP4 HP5 HD2 hwb hw0
                      simp only
                      have hff : (xf != xf) = false := by simp
                      go_wp2_with (go_at_call 40; refine HSJ.out.mono ?_; rintro e w8 ⟨rfl, hb8⟩; (have HB8 := Lib.hid (HBr.out.st hb8)); clear hb8)
                      go_roundg (o.length - (k + 1))
                      case measure => omega
                      case rel => exact ⟨k + 1, xt, d1 + xw, d', by omega, Nat.le_refl _, by go_num, rfl, by go_num, by omega, ⟨by have h1 := HSM.out; have h2 := HD2.out; omega, HP4.out, HP5.out⟩, HB8.out.st (Below.of_al _ _)⟩
                    · obtain rfl : k = o.length := by omega
                      obtain ⟨hsum, hp1, hp2⟩ := HPP.out
                      rw [List.drop_length] at hp2
                      obtain ⟨rfl, rfl⟩ := hp2.end_
                      rw [Int.add_zero] at hsum
                      have HCN := Lib.hid (fun W (hz : Below wr.heap.size wr W) => refCount0_any o (-1) oa oc6 W (HCO7.out.go (HBr.out.st hz)) (by omega) (fun y hy => by have := HPL.out.num y hy; omega))
                      subst hsum
                      have j0 := cell_later HBr.out m0
                      have j1 := cell_later HBr.out m1
                      have j2 := cell_later HBr.out y7
                      clear hp1 hp2 HPP m0 m1 y7
                      go_wp2_with (first
                        | (go_at_call 41; refine (HRG.out _ (HB3.out.st (HB7.out.st HBr.out))).mono ?_; rintro e w8 ⟨rfl, hb8⟩; (have HB8 := Lib.hid hb8); clear hb8)
                        | (go_at_call 42; refine (HCN.out _ HB8.out).mono ?_; rintro e w9 ⟨rfl, rfl⟩)
                        | (go_at_call 28; refine (HAL.out _).mono ?_; rintro e w10 ⟨rfl, hb10⟩; (have HB10 := Lib.hid (HB8.out.st hb10)); clear hb10))
                      go_ret
                      exact ⟨rfl, HB.out.st (HB3.out.st ((HB7.out.st HBr.out).st HB10.out))⟩
                | false =>
                  simp only [Bool.false_eq_true, if_false, List.reverse_nil, List.append_nil] at hob1 hp2
                  subst hob1
                  have HPL := Lib.hid hp2
                  clear hp2
                  go_wp2
                  go_loopg [23, 24, 25] o.length (fun gg v23 v24 v25 wr => ∃ (k : Nat) (x d1 d2 : Int), k ≤ o.length ∧ o.length - k ≤ gg ∧ v25 = .int .i64 k ∧ v23 = .int .i64 x ∧ v24 = .int .u64 d1 ∧ 0 ≤ d1 ∧ Aside (d1 + d2 = yd ∧ PathL S (u : Int) x d1 (o.take k) ∧ PathL S x (vn : Int) d2 (o.drop k)) ∧ Aside (Below wc.heap.size wc wr))
                  case atStart => exact ⟨0, (u : Int), 0, yd, Nat.zero_le _, by omega, rfl, rfl, rfl, Int.le_refl _, ⟨by omega, by rw [List.take_zero]; exact .nil _, by rw [List.drop_zero]; exact HPL.out⟩, Below.refl _ _⟩
                  case round =>
                    obtain ⟨k, x, d1, d2, hk, hgg, rfl, rfl, rfl, hd1, HPP, HBr⟩ := hrel
                    by_cases hlt : k < o.length
                    · have hlt3 : (k : Int) < (o.length : Int) := by omega
                      have hk0 : (0 : Int) ≤ (k : Int) := by omega
                      obtain ⟨hsum, hp1, hp2⟩ := HPP.out
                      rw [List.drop_eq_getElem_cons hlt] at hp2
                      obtain ⟨j, hj, d', hpk, hxf, hd2, hp3⟩ := hp2.uncons
                      have hd0 := hp3.ge HS0.out
                      have hw0 := HS0.out _ (List.getElem_mem hj)
                      have HP4 := Lib.hid (show PathL S (u : Int) S[j].t (d1 + S[j].w) (o.take (k + 1)) by
                        rw [List.take_succ_eq_append_getElem hlt, hpk]
                        exact hp1.snoc hj hxf.symm)
                      have HP5 := Lib.hid hp3
                      obtain ⟨ob, oo2, rfl, y0⟩ := (HCO7.out.go HBr.out).at hlt
                      rw [hpk] at y0
                      have HSJ := Lib.hid (HSC.out j hj wr (HB7.out.st HBr.out))
                      have HSM := Lib.hid hsum
                      have HD2 := Lib.hid hd2
                      have hwb : d1 + S[j].w ≤ 211106232532992 := by omega
                      subst hxf
                      clear hp1 hp2 hp3 hsum hd2 hpk HPP
                      generalize S[j] = s9 at *
                      obtain ⟨xf, xt, xw, xe, xa, xb⟩ := s9
                      simp only [scV] at HSJ HP4 HP5 HD2 hwb hw0
                      simp only
                      have hff : (xf != xf) = false := by simp
                      go_wp2_with (go_at_call 40; refine HSJ.out.mono ?_; rintro e w8 ⟨rfl, hb8⟩; (have HB8 := Lib.hid (HBr.out.st hb8)); clear hb8)
                      go_roundg (o.length - (k + 1))
                      case measure => omega
                      case rel => exact ⟨k + 1, xt, d1 + xw, d', by omega, Nat.le_refl _, by go_num, rfl, by go_num, by omega, ⟨by have h1 := HSM.out; have h2 := HD2.out; omega, HP4.out, HP5.out⟩, HB8.out.st (Below.of_al _ _)⟩
                    · obtain rfl : k = o.length := by omega
                      obtain ⟨hsum, hp1, hp2⟩ := HPP.out
                      rw [List.drop_length] at hp2
                      obtain ⟨rfl, rfl⟩ := hp2.end_
                      rw [Int.add_zero] at hsum
                      have HCN := Lib.hid (fun W (hz : Below wr.heap.size wr W) => refCount0_any o (-1) oa oc6 W (HCO7.out.go (HBr.out.st hz)) (by omega) (fun y hy => by have := HPL.out.num y hy; omega))
                      subst hsum
                      have j0 := cell_later HBr.out m0
                      have j1 := cell_later HBr.out m1
                      have j2 := cell_later HBr.out y7
                      clear hp1 hp2 HPP m0 m1 y7
                      go_wp2_with (first
                        | (go_at_call 41; refine (HRG.out _ (HB3.out.st (HB7.out.st HBr.out))).mono ?_; rintro e w8 ⟨rfl, hb8⟩; (have HB8 := Lib.hid hb8); clear hb8)
                        | (go_at_call 42; refine (HCN.out _ HB8.out).mono ?_; rintro e w9 ⟨rfl, rfl⟩)
                        | (go_at_call 28; refine (HAL.out _).mono ?_; rintro e w10 ⟨rfl, hb10⟩; (have HB10 := Lib.hid (HB8.out.st hb10)); clear hb10))
                      go_ret
                      exact ⟨rfl, HB.out.st (HB3.out.st ((HB7.out.st HBr.out).st HB10.out))⟩
        · have HE := Lib.hid e1
          have hk1 : (k1 != 0) = true := by simpa using e1
          clear e1
          go_enter Tryz.func8, Tryz.ntmps8
          go_upto_region 1 with (fail)
          rw [← HV.out]
          go_wp2_with (first
            | (go_at_call 14; refine HLI.out.mono ?_; rintro e w1 ⟨rfl, hb1⟩; (have HB1 := Lib.hid hb1); (obtain ⟨x0, x1, x2, x3, x4⟩ := HQ.out.go hb1); clear hb1)
            | (go_at_call 16; refine (HBA.out _ HB1.out).mono ?_; rintro e w2 hp2; (obtain ⟨rfl, hb2⟩ := hp2.nil HE.out); (have HB2 := Lib.hid (HB1.out.st hb2)); clear hb2 hp2)
            | (go_at_call 28; refine (HAL.out _).mono ?_; rintro e w6 ⟨rfl, hb6⟩; (have HB6 := Lib.hid (HB2.out.st hb6)); clear hb6))
          go_ret
          exact ⟨rfl, HB.out.st HB6.out⟩
end Go.Proofs.YtkdomobedfhhgaaGreat
