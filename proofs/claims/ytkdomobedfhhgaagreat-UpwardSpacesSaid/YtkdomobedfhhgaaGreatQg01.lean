/-
  Walk of the law UpwardSpaces.
  Proved here: for every input, the law UpwardSpaces answers true, and the arguments read afterwards as they read before (no condition).
-/
import Derived.Test.YtkdomobedfhhgaaGreatProg
import Derived.Test.YtkdomobedfhhgaaGreatQe02
import Derived.Test.YtkdomobedfhhgaaGreatQc03
import Derived.Test.YtkdomobedfhhgaaGreatQf02
import Derived.Test.YtkdomobedfhhgaaGreatRows
import Derived.Test.YtkdomobedfhhgaaGreatQc04
set_option linter.unusedVariables false
set_option linter.unusedSimpArgs false
set_option linter.unnecessarySimpa false
section
namespace Go.Proofs.YtkdomobedfhhgaaGreat
open Go Go.Proofs Go.RowKit Go.Shelf Go.Proofs.YtkdomobedfhhgaaGreat.Hp Go.Proofs.YtkdomobedfhhgaaGreat.Ch

/-- what is found of a node, against how far it is -/
theorem space_at {es : List EdgeD} {n : Nat} {R : List Int} {S : List SC} {ro : List Int} {s : Nat} {back : Bool} {l : List LB} (_hok : HierOK es n R S ro) (h : Space (relB back (arcG es)) (XN S back) (rk ro) (s : Int) (l.map labOf)) {v d : Int} (hd : FarV (relB back (arcG es)) (s : Int) v d) :
    (labIs l v = true → d ≤ (labAt l v).d) ∧ (Peak (relB back (arcG es)) (rk ro) (s : Int) v d → labIs l v = true ∧ (labAt l v).d = d) := by
  have hpw := space_once h
  refine ⟨fun hi => ?_, fun hp => ?_⟩
  · obtain ⟨_, k2, k3⟩ := labIs_some hi
    have hw : Way0 (relB back (arcG es)) Any (s : Int) (labAt l v).v (labAt l v).d := h.sound (labOf (labAt l v)) (List.mem_map.2 ⟨_, k2, rfl⟩)
    rw [k3] at hw
    rcases hd with ⟨k, _⟩ | ⟨_, k⟩
    · exact k.2 _ hw
    · exact absurd hw (k _)
  · obtain ⟨a, ha, e1, e2⟩ := h.peaks v d hp
    obtain ⟨x, hx, rfl⟩ := List.mem_map.1 ha
    obtain ⟨o1, o2⟩ := once_lab hpw hx
    have e3 : x.v = v := e1
    have e4 : x.d = d := e2
    rw [e3] at o1 o2
    exact ⟨o1, by rw [o2, e4]⟩
theorem space_root {A : Int → Int → Int → Prop} {X : Nums} {r : Int → Int} {s : Int} {l : List LB} (h : Space A X r s (l.map labOf)) : labIs l s = true := by
  obtain ⟨x, hx, e⟩ := List.mem_map.1 h.root
  exact List.any_eq_true.2 ⟨x, hx, decide_eq_true (by have := congrArg Lab.v e; exact this)⟩
set_option maxRecDepth 100000 in
set_option maxHeartbeats 4000000 in
theorem UpwardSpaces_any (g : GD) (ao : Option Addr) (cap : Nat) (h1 s1 : Int) (ro : Option Addr) (r : List Int) (rc : Nat) (s : Int) (back : Bool) (w : World) (hc : Cel w ao (flat g.es)) (hr : Cel w ro (r.map encI)) :
    Calls Tryz.prog 5 #[.agg #[.int .i64 g.n, .slice ao g.es.length cap], .agg #[.int .i64 h1, .int .i64 s1, .slice ro r.length rc], .int .i64 s, .bool back] w fun e w' => e = .returned (.bool true) ∧ Below w.heap.size w w' := by
  obtain ⟨V, hV⟩ : ∃ V, V = (w.alloc (Obj.cells #[.int .i64 g.n, .slice ao g.es.length cap] 24)).alloc (Obj.cells #[.int .i64 h1, .int .i64 s1, .slice ro r.length rc] 27) := ⟨_, rfl⟩
  have hbV : Below w.heap.size w V := by rw [hV]; exact (Below.of_al _ _).al _
  have HQ := Lib.hid (show QB1 V w.heap.size g ao cap h1 s1 ro r rc by rw [hV]; constructor <;> go_simp)
  have HAL := Lib.hid alive22_any
  have HLI := Lib.hid (light20_any g.n g.es ao cap V)
  have HB := Lib.hid hbV
  have HV := Lib.hid hV
  obtain ⟨p0, p1, p2, p3, p4⟩ := HQ.out
  have HCS := Lib.hid (And.intro (hc.go hbV) (hr.go hbV))
  clear hbV hV hc hr
  cases hl : light20 g.n g.es with
  | false =>
    rw [hl] at HLI
    clear hl
    go_enter Tryz.func5, Tryz.ntmps5
    go_upto_region 1 with (fail)
    rw [← HV.out]
    go_wp2_with (first
      | (go_at_call 14; refine HLI.out.mono ?_; rintro e w1 ⟨rfl, hb1⟩; (have HB1 := Lib.hid (HB.out.st hb1)); clear hb1)
      | (go_at_call 28; refine (HAL.out _).mono ?_; rintro e w2 ⟨rfl, hb2⟩; (have HB2 := Lib.hid (HB1.out.st hb2)); clear hb2))
    go_ret
    exact ⟨rfl, HB2.out⟩
  | true =>
    obtain ⟨hg, hes⟩ := light20_small hl
    have HG := Lib.hid hg
    rw [hl] at HLI
    clear hl hg
    by_cases hr6 : (60 : Int) < (r.length : Int)
    · go_enter Tryz.func5, Tryz.ntmps5
      go_upto_region 1 with (fail)
      rw [← HV.out]
      go_wp2_with (first
        | (go_at_call 14; refine HLI.out.mono ?_; rintro e w1 ⟨rfl, hb1⟩; (have HB1 := Lib.hid (HB.out.st hb1)); (have k4 := cell_later hb1 p4); clear hb1)
        | (go_at_call 28; refine (HAL.out _).mono ?_; rintro e w2 ⟨rfl, hb2⟩; (have HB2 := Lib.hid (HB1.out.st hb2)); clear hb2))
      go_ret
      exact ⟨rfl, HB2.out⟩
    · have HBA := Lib.hid (fun W (hz : Below V.heap.size V W) => built_any g ao ro cap rc h1 s1 r W (HCS.out.1.go hz) (HCS.out.2.go hz) (fun k => by have := HG.out k; omega) (by omega) (by omega))
      have HZ := Lib.hid (fun k : buildB g h1 s1 r = 0 => build_right k)
      generalize buildB g h1 s1 r = k1 at *
      by_cases e1 : k1 = 0
      · subst e1
        have hgz := HZ.out rfl
        have hn := HG.out hgz
        have hgn := right_n hgz
        obtain ⟨n, hnn⟩ : ∃ n : Nat, g.n = (n : Int) := ⟨g.n.toNat, by omega⟩
        obtain ⟨gn, es⟩ := g
        simp only at hnn hn hes
        subst hnn
        have hn12 : n ≤ 12 := by omega
        have hes40 : es.length ≤ 40 := by omega
        have HFR := Lib.hid (fun (u : Nat) (hu : u < n) W (hz : Below V.heap.size V W) => refFar_any n u es ao cap back W hgz hn12 hes40 hu (HCS.out.1.go hz))
        have HPE := Lib.hid (fun (u v : Nat) (hu : u < n) (hv : v < n) R S po (hok : HierOK es n R S po) ra rc d hd W (hz : Below V.heap.size V W) hR => refPeak_any n u v es R S po ao ra cap rc back d W hgz hok hn12 hes40 hu hv hd (HCS.out.1.go hz) hR)
        have HGZ := Lib.hid hgz
        clear hgz HZ
        go_enter Tryz.func5, Tryz.ntmps5
        go_upto_region 1 with (fail)
        rw [← HV.out]
        go_upto_region 3 with (go_at_call 14; refine HLI.out.mono ?_; rintro e w1 ⟨rfl, hb1⟩; (have HB1 := Lib.hid hb1); (obtain ⟨x0, x1, x2, x3, x4⟩ := HQ.out.go hb1); clear hb1)
        go_upto_region 4 with (go_at_call 16; refine (HBA.out _ HB1.out).mono ?_; rintro e w2 hp2; (obtain ⟨hb, R, S, po, rfl, hbh, hb2⟩ := hp2.good rfl HGZ.out hn); (have HH := Lib.hid (show BH w2 hb n es R S po from hbh)); (have HB2 := Lib.hid (HB1.out.st hb2)); (have z0 := cell_later hb2 x0); (have z1 := cell_later hb2 x1); clear hb2 hp2 hbh)
        clear x0 x1 x2 x3 x4 p0 p1 p2 p3 p4
        by_cases hs : s < 0 ∨ (n : Int) ≤ s
        · have HSO := Lib.hid (space_off hb n es R S _ _ s back w2 HH.out.mem HH.out.pos hs)
          rcases hs with hs | hs
          · go_wp2_with (first
              | (go_at_call 29; refine HSO.out.mono ?_; rintro e w3 ⟨rfl, hb3⟩; (have HB3 := Lib.hid (HB2.out.st hb3)); clear hb3)
              | (go_at_call 28; refine (HAL.out _).mono ?_; rintro e w4 ⟨rfl, hb4⟩; (have HB4 := Lib.hid (HB3.out.st hb4)); clear hb4))
            go_ret
            exact ⟨rfl, HB.out.st HB4.out⟩
          · have hs0 : ¬ s < 0 := by omega
            go_wp2_with (first
              | (go_at_call 29; refine HSO.out.mono ?_; rintro e w3 ⟨rfl, hb3⟩; (have HB3 := Lib.hid (HB2.out.st hb3)); (have c0 := cell_later hb3 z0); clear hb3)
              | (go_at_call 28; refine (HAL.out _).mono ?_; rintro e w4 ⟨rfl, hb4⟩; (have HB4 := Lib.hid (HB3.out.st hb4)); clear hb4))
            go_ret
            exact ⟨rfl, HB.out.st HB4.out⟩
        · obtain ⟨u, rfl⟩ : ∃ u : Nat, s = u := ⟨s.toNat, by omega⟩
          have hu : u < n := by omega
          have HSA := Lib.hid (space_any hb n es R S po u back w2 HH.out.mem HH.out.ok HH.out.le hu)
          unfold SpacePost at HSA
          have hs0 : (0 : Int) ≤ (u : Int) := by omega
          have hs1 : (u : Int) < (n : Int) := by omega
          clear hs
          go_upto_region 10 with (go_at_call 29; refine HSA.out.mono ?_; rintro e w3 ⟨la, lc, l, rfl, k1, k2, k3, k4, k5, k6⟩; (have HC3 := Lib.hid k1); (have HB3 := Lib.hid (HB2.out.st k2)); (have HS3 := Lib.hid k3); (have HL3 := Lib.hid (And.intro k4 k5)); (have HH3 := Lib.hid (HH.out.go k2)); (have c0 := cell_later k2 z0); (have c1 := cell_later k2 z1); clear k1 k2 k3 k4 k5 k6)
          have HHI := Lib.hid (fun W (hz : Below w3.heap.size w3 W) => hierarchy_any hb n es R S _ _ W (HH3.out.go hz).mem (by omega))
          have HRL := Lib.hid HH.out.ok.len
          unfold CHPost at HHI
          go_upto_region 11 with (go_at_call 21; refine (HHI.out _ (Below.refl _ _)).mono ?_; rintro e w4 ⟨a1, q1, b1, q2, rfl, k1, k2, hb4, kf1, kf2⟩; (have HR4 := Lib.hid k1); (have HX4 := Lib.hid k2); (have HB4 := Lib.hid hb4); clear k1 k2 hb4 kf1 kf2)
          obtain ⟨W5, hW5⟩ : ∃ W5, W5 = w4.alloc (Obj.cells #[.slice a1 R.length q1, .slice b1 S.length q2] 45) := ⟨_, rfl⟩
          rw [← hW5]
          have hb45 : Below w4.heap.size w4 W5 := by rw [hW5]; exact Below.of_al _ _
          have i0 : W5.cell? ⟨w4.heap.size, 0, none⟩ = some (.slice a1 R.length q1) := by rw [hW5]; go_simp
          have i1 : W5.cell? ⟨w4.heap.size, 1, none⟩ = some (.slice b1 S.length q2) := by rw [hW5]; go_simp
          have hb35 := HB4.out.st hb45
          have j0 := cell_later hb35 c0
          have j1 := cell_later hb35 c1
          have HC5 := Lib.hid (HC3.out.go hb35)
          have HR5 := Lib.hid (HR4.out.go hb45)
          have HRT := Lib.hid (right_any n R S l (u : Int) back a1 b1 la q1 q2 lc W5 (HR4.out.go hb45) (HX4.out.go hb45) (HC3.out.go hb35) HRL.out (by omega) HH.out.mem.small.2.1 (by have := HL3.out.1; omega) (fun x hx => by
            have k1 := HH.out.ok.ends x hx
            have k2 := HH.out.ok.big x hx
            have k3 := big12 hn12
            exact ⟨k1.1, k1.2.1, by omega, by omega⟩) (fun x hx => by have := (labsOK HH.out.ok HS3.out hu hn12 x hx).2; omega) (space_labs HH.out.ok hn12 hu HS3.out HL3.out.2))
          have HB5 := Lib.hid (HB3.out.st hb35)
          have hlb : ((R.length : Int) != (n : Int)) = false := by have := HRL.out; simp; omega
          have HF2 := Lib.hid (HFR.out u hu)
          unfold AllPost at HF2
          clear hW5 hb45 hb35 c0 c1 z0 z1 HHI HR4 HX4 HB4 HC3
          go_upto_region 13 with (go_at_call 30; refine HRT.out.mono ?_; rintro e w6 ⟨rfl, hb6⟩; (have HB6 := Lib.hid hb6); (have l0 := cell_later hb6 j0); (have l1 := cell_later hb6 j1); (have m0 := cell_later hb6 i0); clear hb6)
          clear j0 j1 i0 i1
          go_upto_region 14 with (go_at_call 20; refine (HF2.out _ (HB5.out.st HB6.out)).mono ?_; rintro e w7 ⟨fb, dd, rfl, k1, k2, k3, k4⟩; (have HD7 := Lib.hid k1); (have HB7 := Lib.hid (HB6.out.st k2)); (have HAI := Lib.hid k4); (have o0 := cell_later k2 l0); (have o1 := cell_later k2 l1); (have o2 := cell_later k2 m0); clear k1 k2 k3 k4)
          have HC7 := Lib.hid (HC5.out.go HB7.out)
          have HR7 := Lib.hid (HR5.out.go HB7.out)
          have HBV7 := Lib.hid (HB5.out.st HB7.out)
          have HRT2 := Lib.hid (space_root HS3.out)
          have hpos := (HH.out.ok.hierB back).pos
          have HFV := Lib.hid (fun (v : Nat) (hv : v < n) => space_at HH.out.ok HS3.out (HAI.out.far hpos (v := (v : Int)) ⟨by omega, by omega⟩))
          have HPK := Lib.hid (fun (v : Nat) (hv : v < n) W (hz : Below w7.heap.size w7 W) => HPE.out u v hu hv R S po HH.out.ok a1 q1 _ (HAI.out.far hpos (v := (v : Int)) ⟨by omega, by omega⟩) W (HBV7.out.st hz) (HR7.out.go hz))
          have HFD := Lib.hid (fun x W (hz : Below w7.heap.size w7 W) => find_any l la lc x W (HC7.out.go hz) (by have := HL3.out.1; omega))
          have hdl := HAI.out.1
          have HDL := Lib.hid hdl
          rw [HRL.out] at o2
          clear l0 l1 m0 HRT HF2 HC5 HR5 hpos hdl hlb
          go_wp2
          go_loopg [17] n (fun gg v17 wr => ∃ k : Nat, k ≤ n ∧ n - k ≤ gg ∧ v17 = .int .i64 k ∧ Aside (Below w7.heap.size w7 wr))
          case atStart => exact ⟨0, Nat.zero_le _, by omega, rfl, Below.refl _ _⟩
          case round =>
            obtain ⟨k, hk, hgg, rfl, HBr⟩ := hrel
            have r0 := cell_later HBr.out o0
            by_cases hlt : k < n
            · have hlt3 : (k : Int) < (n : Int) := by omega
              have hk0 : (0 : Int) ≤ (k : Int) := by omega
              have HPK2 := Lib.hid (HPK.out k hlt)
              obtain ⟨hf1, hf2⟩ := HFV.out k hlt
              have HF1 := Lib.hid hf1
              have HFF := Lib.hid hf2
              have HFK := Lib.hid (HFD.out (k : Int) wr HBr.out)
              have dk := row_at HD7.out HDL.out hlt
              unfold PeakPost at HPK2
              obtain ⟨pk, hpk⟩ : ∃ pk : Bool, pk = true ↔ Peak (relB back (arcG es)) (rk po) (u : Int) (k : Int) (gD dd (k : Int)) := (Classical.em (Peak (relB back (arcG es)) (rk po) (u : Int) (k : Int) (gD dd (k : Int)))).elim (fun h => ⟨true, by simp [h]⟩) (fun h => ⟨false, by simp [h]⟩)
              have HPK3 := Lib.hid (fun W hz => (HPK2.out W hz).mono (R' := fun e w' => e = .returned (.bool pk) ∧ Below W.heap.size W w') (by
                rintro e w' ⟨b, rfl, hb1, hb2⟩
                exact ⟨by rw [show b = pk from Bool.eq_iff_iff.2 (hb1.trans hpk.symm)], hb2⟩))
              have HPI := Lib.hid hpk.1
              clear hf1 hf2 hpk HPK2
              generalize gD dd (k : Int) = d at *
              generalize labAt l (k : Int) = y at *
              generalize labIs l (k : Int) = is at *
              obtain ⟨yv, yd, yb⟩ := y
              simp only [encL] at HFK
              simp only at HF1 HFF
              go_upto_region 18 with (go_at_call 31; refine HFK.out.mono ?_; rintro e w8 ⟨rfl, hb8⟩; (have HB8 := Lib.hid (HBr.out.st hb8)); clear hb8)
              obtain ⟨W9, hW9⟩ : ∃ W9, W9 = w8.alloc (Obj.cells #[.int .i64 yv, .int .u64 yd, .int .i64 yb] 64) := ⟨_, rfl⟩
              rw [← hW9]
              have hb9 : Below w8.heap.size w8 W9 := by rw [hW9]; exact Below.of_al _ _
              have t1 : W9.cell? ⟨w8.heap.size, 1, none⟩ = some (.int .u64 yd) := by rw [hW9]; go_simp
              have hb79 := HB8.out.st hb9
              have v0 := cell_later hb79 o0
              have v1 := cell_later hb79 o1
              have v2 := cell_later hb79 o2
              have v3 := cell_later hb79 dk
              have f0 := fun p => cell_ext p v0
              have f1 := fun p => cell_ext p v1
              have f2 := fun p => cell_ext p v2
              have f3 := fun p => cell_ext p v3
              have f4 := fun p => cell_ext p t1
              have HPK5 := Lib.hid (fun p => HPK3.out (ext W9 p) (hb79.st (below_ext W9 p)))
              rw [HRL.out] at HPK5
              have HB9 := Lib.hid hb79
              clear hW9 hb9 hb79 HPK3 HFK
              cases pk with
              | true =>
                obtain ⟨q1, q2⟩ := HFF.out (HPI.out rfl)
                subst q1
                subst q2
                have hne : (yd != yd) = false := by simp
                have hlt9 : ¬ yd < yd := by omega
                clear HF1 HFF HPI
                refine wp_region_ext (by kernel_rfl) (by kernel_rfl) ?_
                repeat (go_big_quiet_step ((go_at_call 32; exact Calls.ext_of (HPK5.out _))))
                refine wpQuiet_nil ?_
                rintro _ ⟨pc, rfl⟩
                have HBc := Lib.hid (below_ext W9 pc)
                generalize ext W9 pc = wc at HBc ⊢
                go_wp2
                go_roundg (n - (k + 1))
                case measure => omega
                case rel => exact ⟨k + 1, by omega, Nat.le_refl _, by go_num, HB9.out.st HBc.out⟩
              | false =>
                clear HFF HPI
                cases is with
                | false =>
                  clear HF1
                  refine wp_region_ext (by kernel_rfl) (by kernel_rfl) ?_
                  repeat (go_big_quiet_step ((go_at_call 32; exact Calls.ext_of (HPK5.out _))))
                  refine wpQuiet_nil ?_
                  rintro _ ⟨pc, rfl⟩
                  have HBc := Lib.hid (below_ext W9 pc)
                  generalize ext W9 pc = wc at HBc ⊢
                  go_wp2
                  go_roundg (n - (k + 1))
                  case measure => omega
                  case rel => exact ⟨k + 1, by omega, Nat.le_refl _, by go_num, HB9.out.st HBc.out⟩
                | true =>
                  have hlt9 : ¬ yd < d := by have := HF1.out rfl; omega
                  clear HF1
                  refine wp_region_ext (by kernel_rfl) (by kernel_rfl) ?_
                  repeat (go_big_quiet_step ((go_at_call 32; exact Calls.ext_of (HPK5.out _))))
                  refine wpQuiet_nil ?_
                  rintro _ ⟨pc, rfl⟩
                  have HBc := Lib.hid (below_ext W9 pc)
                  generalize ext W9 pc = wc at HBc ⊢
                  go_wp2
                  go_roundg (n - (k + 1))
                  case measure => omega
                  case rel => exact ⟨k + 1, by omega, Nat.le_refl _, by go_num, HB9.out.st HBc.out⟩
            · obtain rfl : k = n := by omega
              have HFS := Lib.hid (HFD.out (u : Int) wr HBr.out)
              rw [HRT2.out] at HFS
              generalize labAt l (u : Int) = y at *
              obtain ⟨yv, yd, yb⟩ := y
              simp only [encL] at HFS
              go_wp2_with (first
                | (go_at_call 31; refine HFS.out.mono ?_; rintro e w8 ⟨rfl, hb8⟩; (have HB8 := Lib.hid (HBr.out.st hb8)); clear hb8)
                | (go_at_call 28; refine (HAL.out _).mono ?_; rintro e w9 ⟨rfl, hb9⟩; (have HB9 := Lib.hid (((HB8.out.st (Below.of_al _ _))).st hb9)); clear hb9))
              go_ret
              exact ⟨rfl, HB.out.st (HBV7.out.st HB9.out)⟩
      · have HE := Lib.hid e1
        have hk1 : (k1 != 0) = true := by simpa using e1
        clear e1
        go_enter Tryz.func5, Tryz.ntmps5
        go_upto_region 1 with (fail)
        rw [← HV.out]
        go_wp2_with (first
          | (go_at_call 14; refine HLI.out.mono ?_; rintro e w1 ⟨rfl, hb1⟩; (have HB1 := Lib.hid hb1); (obtain ⟨x0, x1, x2, x3, x4⟩ := HQ.out.go hb1); clear hb1)
          | (go_at_call 16; refine (HBA.out _ HB1.out).mono ?_; rintro e w2 hp2; (obtain ⟨rfl, hb2⟩ := hp2.nil HE.out); (have HB2 := Lib.hid (HB1.out.st hb2)); clear hb2 hp2)
          | (go_at_call 29; refine (space_nil _ _ _).mono ?_; rintro e w3 ⟨rfl, hb3⟩; (have HB3 := Lib.hid (HB2.out.st hb3)); clear hb3)
          | (go_at_call 28; refine (HAL.out _).mono ?_; rintro e w6 ⟨rfl, hb6⟩; (have HB6 := Lib.hid (HB3.out.st hb6)); clear hb6))
        go_ret
        exact ⟨rfl, HB.out.st HB6.out⟩
end Go.Proofs.YtkdomobedfhhgaaGreat
end

section
namespace Go.Proofs.YtkdomobedfhhgaaGreat.upwardSpaces
open Go.ChangeShapes Go.WideShapes Go.ChangeAt Go.RowKit Go.Joins
open Go.ChangeMaps (open_string shut_string)
set_option linter.unusedVariables false

theorem own : ownKnob Tryz.prog.godebug = none := by kernel_rfl
theorem laidOut : laidOutB Tryz.prog = true := by kernel_rfl

set_option maxRecDepth 100000 in
theorem lifted (os : Os) (started : os.Started) (H : Type) (enc : TypeId × Value → H) :
    ReturnsInHanded {} Tryz.checked os 5 .any (Rows.upwardSpacesSpec.pre6 enc Tryz.prog Tryz.f5 Rows.upwardSpacesRow.domain false) (Rows.upwardSpacesSpec.post enc Tryz.prog Tryz.f5 false true false false) := by
  refine returnsInHanded_of_change_sized (C := Tryz.checked) own started (by kernel_rfl) Tryz.func5
    (ChangeSpec.witness6 (enc := enc) (C := Tryz.checked) false ⟨#[], #[.agg #[.int .i64 0, .slice none 0 0], .agg #[.int .i64 0, .int .i64 0, .slice none 0 0], .int .i64 0, .bool false], []⟩ 8 (by kernel_rfl) (by kernel_rfl) (by kernel_rfl) (by kernel_rfl)) ?_
  intro W base args ds gs before hval0 hW _ hsz0 _
  have hsz : (DataW.weightsEach Tryz.prog (Tryz.f5.params.toList ++ Rows.upwardSpacesSpec.plain.varTypes Tryz.prog) (ds ++ gs)).all (· ≤ reachBytes) = true := hsz0
  clear hsz0
  have hval : ∀ (j : Nat) t v, Tryz.f5.params[j]? = some t → args[j]? = some v → Value.okWide Tryz.prog W .any base t v := hval0
  have hW' := hW
  obtain ⟨p, q, hA0, hV, rfl, hfz, hnd⟩ := hW
  have hA : DataW.TrodAll enc Tryz.prog W 0 (fun _ => true) true Tryz.f5.params.toList args.toList ds p := hA0
  rw [Tryz.params5] at hA hval hsz
  obtain ⟨v0, vs0, d0, ds0, p0, q0, hargs, rfl, rfl, h0, r0⟩ := trodAll_cons hA
  obtain ⟨v1, vs1, d1, ds1, p1, q1, rfl, rfl, rfl, h1, r1⟩ := trodAll_cons r0
  obtain ⟨v2, vs2, d2, ds2, p2, q2, rfl, rfl, rfl, h2, r2⟩ := trodAll_cons r1
  obtain ⟨v3, vs3, d3, ds3, p3, q3, rfl, rfl, rfl, h3, r3⟩ := trodAll_cons r2
  obtain ⟨rfl, rfl, rfl⟩ := trodAll_nil r3
  obtain rfl : args = #[v0, v1, v2, v3] := by cases args; simp_all
  obtain ⟨rfl, rfl⟩ := trodVars_none hV
  have k0 := h0
  have lt0 : ∀ x ∈ p0, x.block < W.heap.size := by obtain ⟨m, hm⟩ := k0; exact DataW.trod_lt m _ _ _ hm
  have k1 := h1
  have lt1 : ∀ x ∈ p1, x.block < W.heap.size := by obtain ⟨m, hm⟩ := k1; exact DataW.trod_lt m _ _ _ hm
  have k2 := h2
  have lt2 : ∀ x ∈ p2, x.block < W.heap.size := by obtain ⟨m, hm⟩ := k2; exact DataW.trod_lt m _ _ _ hm
  have k3 := h3
  have lt3 : ∀ x ∈ p3, x.block < W.heap.size := by obtain ⟨m, hm⟩ := k3; exact DataW.trod_lt m _ _ _ hm
  obtain ⟨x0, y0, rx0, ry0, fu0, rfl, rfl, rfl, hx0, hy0⟩ := open_agg2 Tryz.underlying24 (by kernel_rfl) (by kernel_rfl) (hval 0 24 v0 rfl rfl) h0
  obtain ⟨ng, he0, _, gg⟩ := DataW.trod_int Tryz.underlying3 hx0
  simp only [List.cons.injEq, and_true] at he0
  subst he0
  have bg := wf_i64 gg
  obtain ⟨aog, capg, g, rfl, cg, lg, fg⟩ := rd_edges Tryz.underlying22 Tryz.underlying119 Tryz.underlying3 Tryz.underlying34 (by kernel_rfl) (by kernel_rfl) (by kernel_rfl) hy0
  obtain ⟨x1, y1, z1, rx1, ry1, rz1, fu1, rfl, rfl, rfl, hx1, hy1, hz1⟩ := open_agg3 Tryz.underlying27 (by kernel_rfl) (by kernel_rfl) (hval 1 27 v1 rfl rfl) h1
  obtain ⟨ha, hex1, _, gha⟩ := DataW.trod_int Tryz.underlying3 hx1
  simp only [List.cons.injEq, and_true] at hex1
  subst hex1
  have bha := wf_i64 gha
  obtain ⟨sa, hey1, _, gsa⟩ := DataW.trod_int Tryz.underlying3 hy1
  simp only [List.cons.injEq, and_true] at hey1
  subst hey1
  have bsa := wf_i64 gsa
  obtain ⟨aoa, capa, a, rfl, ca, na, fa⟩ := rd_ints Tryz.underlying25 Tryz.underlying3 (by kernel_rfl) hz1
  obtain ⟨s, rfl, rfl, rfl, y2⟩ := open_int Tryz.underlying3 (hval 2 3 v2 rfl rfl) h2
  have bs := wf_i64 y2
  obtain ⟨b, rfl, rfl, rfl⟩ := open_bool Tryz.underlying4 (hval 3 4 v3 rfl rfl) h3
  clear hA0 hval0
  refine (UpwardSpaces_any ⟨ng, g⟩ aog capg ha sa aoa a capa s b W cg ca).mono fun e W' ⟨he, bel⟩ => ?_
  subst he
  exact ⟨_, rfl, _, _, _, [], _, [], hW', trodAll_mk1 (shut_bool Tryz.underlying4 _), (trodAll_cons_mk (Below.trod laidOut (by kernel_rfl) (of_decide_eq_true (by kernel_rfl)) k0 bel lt0) (trodAll_cons_mk (Below.trod laidOut (by kernel_rfl) (of_decide_eq_true (by kernel_rfl)) k1 bel lt1) (trodAll_cons_mk (Below.trod laidOut (by kernel_rfl) (of_decide_eq_true (by kernel_rfl)) k2 bel lt2) (trodAll_cons_mk (Below.trod laidOut (by kernel_rfl) (of_decide_eq_true (by kernel_rfl)) k3 bel lt3) trodAll_mk0)))), rfl, bel.frame _, fun h => by cases h⟩

theorem over : Rows.upwardSpacesRow.holds Tryz.pinned (OpenSpec.ofChange Rows.upwardSpacesSpec) :=
  OpenClaim.holds_of_wide 5 Tryz.f5 rfl rfl rfl rfl rfl rfl rfl ⟨rfl, rfl, rfl, rfl, rfl⟩ rfl rfl rfl rfl rfl (by kernel_rfl) Tryz.func5 (by kernel_rfl)
    (of_decide_eq_true (by kernel_rfl)) (by unfold Func.isWrapper; first | (rw [if_pos (by decide +kernel)]; kernel_rfl) | (rw [if_neg (by decide +kernel)]; exact ⟨rfl, rfl⟩))
    (fun os started H enc _ => lifted os started H enc)

end Go.Proofs.YtkdomobedfhhgaaGreat.upwardSpaces
namespace Go.Proofs.YtkdomobedfhhgaaGreat
/-- The statement. -/
theorem upwardSpaces_holds : Rows.UpwardSpacesSaid := upwardSpaces.over
#print axioms upwardSpaces_holds
end Go.Proofs.YtkdomobedfhhgaaGreat
end
