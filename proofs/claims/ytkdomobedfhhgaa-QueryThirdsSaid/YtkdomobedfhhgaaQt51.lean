/-
  Walk of the law QueryThirds.
-/
import Derived.Test.YtkdomobedfhhgaaProg
import Derived.Test.YtkdomobedfhhgaaQt50
set_option linter.unusedVariables false
set_option linter.unusedSimpArgs false
set_option linter.unnecessarySimpa false
namespace Go.Proofs.Ytkdomobedfhhgaa
open Go Go.Proofs Go.RowKit Go.Shelf Go.Proofs.Ytkdomobedfhhgaa.Hp Go.Proofs.Ytkdomobedfhhgaa.Ch

def lightG (n : Int) (es : List EdgeD) : Bool := (decide (n ≤ 100) || decide (4096 < n)) && decide ((es.length : Int) ≤ 300)
set_option maxHeartbeats 1000000 in
theorem light05_any (n : Int) (es : List EdgeD) (ao : Option Addr) (cap : Nat) (w : World) :
    Calls Try.prog 8 #[.agg #[.int .i64 n, .slice ao es.length cap]] w fun e w' => e = .returned (.bool (lightG n es)) ∧ Below w.heap.size w w' := by
  unfold lightG
  by_cases h1 : n ≤ 100
  · rw [decide_eq_true h1, Bool.true_or, Bool.true_and]
    have g1 : decide (n ≤ 100) = true := decide_eq_true h1
    go_enter Try.func8, Try.ntmps8
    go_wp2
    go_ret
    exact ⟨rfl, Below.of_al _ _⟩
  · rw [decide_eq_false h1, Bool.false_or]
    have g1 : decide (n ≤ 100) = false := decide_eq_false h1
    by_cases h2 : 4096 < n
    · rw [decide_eq_true h2, Bool.true_and]
      have g2 : decide (n > 4096) = true := decide_eq_true h2
      go_enter Try.func8, Try.ntmps8
      go_wp2
      go_ret
      exact ⟨rfl, Below.of_al _ _⟩
    · rw [decide_eq_false h2, Bool.false_and]
      have g2 : decide (n > 4096) = false := decide_eq_false h2
      go_enter Try.func8, Try.ntmps8
      go_wp2
      go_ret
      exact ⟨rfl, Below.of_al _ _⟩

def light20 (n : Int) (es : List EdgeD) : Bool := lightG n es && (decide (n ≤ 12) || decide (4096 < n)) && decide ((es.length : Int) ≤ 40)
theorem light20_small {g : GD} (h : light20 g.n g.es = true) : (rightG g = 0 → g.n ≤ 12) ∧ g.es.length ≤ 40 := by
  unfold light20 at h
  simp only [Bool.and_eq_true, Bool.or_eq_true, decide_eq_true_eq] at h
  refine ⟨fun hr => ?_, by omega⟩
  have := right_n hr
  omega
set_option maxHeartbeats 1000000 in
theorem light20_any (n : Int) (es : List EdgeD) (ao : Option Addr) (cap : Nat) (w : World) :
    Calls Try.prog 4 #[.agg #[.int .i64 n, .slice ao es.length cap]] w fun e w' => e = .returned (.bool (light20 n es)) ∧ Below w.heap.size w w' := by
  have HL := Lib.hid (light05_any n es ao cap)
  unfold light20
  obtain ⟨W, hW⟩ : ∃ W, W = w.alloc (Obj.cells #[.int .i64 n, .slice ao es.length cap] 24) := ⟨_, rfl⟩
  have hbw : Below w.heap.size w W := by rw [hW]; exact Below.of_al _ _
  have c0 : W.cell? ⟨w.heap.size, 0, none⟩ = some (.int .i64 n) := by rw [hW]; go_simp
  have c1 : W.cell? ⟨w.heap.size, 1, none⟩ = some (.slice ao es.length cap) := by rw [hW]; go_simp
  have HB := Lib.hid hbw
  have HW := Lib.hid hW
  clear hbw hW
  cases hb : lightG n es with
  | false =>
    rw [hb] at HL
    clear hb
    go_enter Try.func4, Try.ntmps4
    go_upto_region 1 with (fail)
    rw [← HW.out]
    go_wp2_with (go_at_call 8; refine (HL.out _).mono ?_; rintro e w1 ⟨rfl, hb1⟩; (have HB1 := Lib.hid hb1); clear hb1)
    go_ret
    exact ⟨by simp, HB.out.st HB1.out⟩
  | true =>
    rw [hb] at HL
    clear hb
    by_cases h1 : n ≤ 12
    · go_enter Try.func4, Try.ntmps4
      go_upto_region 1 with (fail)
      rw [← HW.out]
      go_wp2_with (go_at_call 8; refine (HL.out _).mono ?_; rintro e w1 ⟨rfl, hb1⟩; (have d0 := cell_later hb1 c0); (have d1 := cell_later hb1 c1); (have HB1 := Lib.hid hb1); clear hb1)
      go_ret
      exact ⟨by simp [h1], HB.out.st HB1.out⟩
    · by_cases h2 : 4096 < n
      · go_enter Try.func4, Try.ntmps4
        go_upto_region 1 with (fail)
        rw [← HW.out]
        go_wp2_with (go_at_call 8; refine (HL.out _).mono ?_; rintro e w1 ⟨rfl, hb1⟩; (have d0 := cell_later hb1 c0); (have d1 := cell_later hb1 c1); (have HB1 := Lib.hid hb1); clear hb1)
        go_ret
        exact ⟨by simp [h1, h2], HB.out.st HB1.out⟩
      · go_enter Try.func4, Try.ntmps4
        go_upto_region 1 with (fail)
        rw [← HW.out]
        go_wp2_with (go_at_call 8; refine (HL.out _).mono ?_; rintro e w1 ⟨rfl, hb1⟩; (have d0 := cell_later hb1 c0); (have d1 := cell_later hb1 c1); (have HB1 := Lib.hid hb1); clear hb1)
        go_ret
        exact ⟨by simp [h1, h2]; intro h; omega, HB.out.st HB1.out⟩
theorem BltPost.two {g : GD} {k : Int} {w w' : World} {e : Ending} (h : BltPost g k w e w') : ∃ p, e = .returned (.tuple #[.pointer p, .int .i64 k]) ∧ Below w.heap.size w w' ∧ (k = 0 → rightG g = 0 → g.n ≤ 12 → ∃ hb R S ro, p = some ⟨hb, 0, none⟩ ∧ BH w' hb g.n.toNat g.es R S ro) := by
  have h0 := h
  obtain ⟨h1 | h1, h2⟩ := h
  · obtain ⟨rfl, hb, R, S, ro, e, hm, ho⟩ := h1
    exact ⟨_, e, h2, fun _ hg hn => by
      have := right_n hg
      exact ⟨hb, R, S, ro, rfl, ⟨hm, ho, by omega, by omega⟩⟩⟩
  · exact ⟨none, h1.2, h2, fun hk => absurd hk h1.1⟩
/-- the boxes of the arguments -/
structure QB (W : World) (b : Nat) (g : GD) (ao : Option Addr) (cap : Nat) (h1 s1 : Int) (ro : Option Addr) (r : List Int) (rc : Nat) (h2 s2 : Int) (qo : Option Addr) (q : List Int) (qc : Nat) : Prop where
  g0 : W.cell? ⟨b, 0, none⟩ = some (.int .i64 g.n)
  g1 : W.cell? ⟨b, 1, none⟩ = some (.slice ao g.es.length cap)
  a0 : W.cell? ⟨b + 1, 0, none⟩ = some (.int .i64 h1)
  a1 : W.cell? ⟨b + 1, 1, none⟩ = some (.int .i64 s1)
  a2 : W.cell? ⟨b + 1, 2, none⟩ = some (.slice ro r.length rc)
  b0 : W.cell? ⟨b + 2, 0, none⟩ = some (.int .i64 h2)
  b1 : W.cell? ⟨b + 2, 1, none⟩ = some (.int .i64 s2)
  b2 : W.cell? ⟨b + 2, 2, none⟩ = some (.slice qo q.length qc)
theorem QB.go {W W' : World} {b : Nat} {g : GD} {ao : Option Addr} {cap : Nat} {h1 s1 : Int} {ro : Option Addr} {r : List Int} {rc : Nat} {h2 s2 : Int} {qo : Option Addr} {q : List Int} {qc : Nat} (h : QB W b g ao cap h1 s1 ro r rc h2 s2 qo q qc) (hz : Below W.heap.size W W') : QB W' b g ao cap h1 s1 ro r rc h2 s2 qo q qc :=
  ⟨cell_later hz h.g0, cell_later hz h.g1, cell_later hz h.a0, cell_later hz h.a1, cell_later hz h.a2, cell_later hz h.b0, cell_later hz h.b1, cell_later hz h.b2⟩
theorem thirds {n : Nat} {A : Int → Int → Int → Prop} {s t v st sv vt x : Int} (hA : ∀ u v w, A u v w → 1 ≤ w) (h1 : DistIs n A s t st x) (h2 : DistIs n A s v sv 0) (h3 : DistIs n A v t vt 0) : x = 0 ∧ st ≤ sv + vt ∧ 0 ≤ sv ∧ sv ≤ 1152921504606846976 ∧ 0 ≤ vt ∧ vt ≤ 1152921504606846976 := by
  rcases h2 with ⟨_, k1, k2, k3, k4⟩ | ⟨h, _⟩ | ⟨h, _⟩
  · rcases h3 with ⟨_, m1, m2, m3, m4⟩ | ⟨h, _⟩ | ⟨h, _⟩
    · have hw := k3.1.trans trivial m3.1
      have p1 := k3.1.nonneg hA
      have p2 := m3.1.nonneg hA
      rcases h1 with ⟨e, _, _, h1, _⟩ | ⟨_, _, _, _, h1⟩ | ⟨_, _, h1⟩
      · exact ⟨e, h1.2 _ hw, p1, k4, p2, m4⟩
      · exact absurd hw (h1 _)
      · exact absurd ⟨k1, m2⟩ h1
    · cases h
    · cases h
  · cases h
  · cases h
set_option maxRecDepth 100000 in
set_option maxHeartbeats 4000000 in
theorem QueryThirds_any (g : GD) (ao : Option Addr) (cap : Nat) (h1 s1 : Int) (ro : Option Addr) (r : List Int) (rc : Nat) (h2 s2 : Int) (qo : Option Addr) (q : List Int) (qc : Nat) (s t v : Int) (w : World) (hc : Cel w ao (flat g.es)) (hr : Cel w ro (r.map encI)) (hq : Cel w qo (q.map encI)) :
    Calls Try.prog 3 #[.agg #[.int .i64 g.n, .slice ao g.es.length cap], .agg #[.int .i64 h1, .int .i64 s1, .slice ro r.length rc], .agg #[.int .i64 h2, .int .i64 s2, .slice qo q.length qc], .int .i64 s, .int .i64 t, .int .i64 v] w fun e w' => e = .returned (.bool true) ∧ Below w.heap.size w w' := by
  obtain ⟨V, hV⟩ : ∃ V, V = ((w.alloc (Obj.cells #[.int .i64 g.n, .slice ao g.es.length cap] 24)).alloc (Obj.cells #[.int .i64 h1, .int .i64 s1, .slice ro r.length rc] 27)).alloc (Obj.cells #[.int .i64 h2, .int .i64 s2, .slice qo q.length qc] 27) := ⟨_, rfl⟩
  have hbV : Below w.heap.size w V := by rw [hV]; exact ((Below.of_al _ _).al _).al _
  have HQ := Lib.hid (show QB V w.heap.size g ao cap h1 s1 ro r rc h2 s2 qo q qc by rw [hV]; constructor <;> go_simp)
  have HAL := Lib.hid alive23_any
  have HLI := Lib.hid (light20_any g.n g.es ao cap V)
  have HB := Lib.hid hbV
  have HV := Lib.hid hV
  obtain ⟨p0, p1, p2, p3, p4, p5, p6, p7⟩ := HQ.out
  have HCS := Lib.hid (And.intro (hc.go hbV) (And.intro (hr.go hbV) (hq.go hbV)))
  clear hbV hV hc hr hq
  cases hl : light20 g.n g.es with
  | false =>
    rw [hl] at HLI
    clear hl
    go_enter Try.func3, Try.ntmps3
    go_upto_region 1 with (fail)
    rw [← HV.out]
    go_wp2_with (first
      | (go_at_call 4; refine HLI.out.mono ?_; rintro e w1 ⟨rfl, hb1⟩; (have HB1 := Lib.hid (HB.out.st hb1)); clear hb1)
      | (go_at_call 5; refine (HAL.out _).mono ?_; rintro e w2 ⟨rfl, hb2⟩; (have HB2 := Lib.hid (HB1.out.st hb2)); clear hb2))
    go_ret
    exact ⟨rfl, HB2.out⟩
  | true =>
    obtain ⟨hg, hes⟩ := light20_small hl
    have HG := Lib.hid hg
    rw [hl] at HLI
    clear hl hg
    by_cases hr6 : (60 : Int) < (r.length : Int)
    · go_enter Try.func3, Try.ntmps3
      go_upto_region 1 with (fail)
      rw [← HV.out]
      go_wp2_with (first
        | (go_at_call 4; refine HLI.out.mono ?_; rintro e w1 ⟨rfl, hb1⟩; (have HB1 := Lib.hid (HB.out.st hb1)); (have k4 := cell_later hb1 p4); (have k7 := cell_later hb1 p7); clear hb1)
        | (go_at_call 5; refine (HAL.out _).mono ?_; rintro e w2 ⟨rfl, hb2⟩; (have HB2 := Lib.hid (HB1.out.st hb2)); clear hb2))
      go_ret
      exact ⟨rfl, HB2.out⟩
    · by_cases hq6 : (60 : Int) < (q.length : Int)
      · go_enter Try.func3, Try.ntmps3
        go_upto_region 1 with (fail)
        rw [← HV.out]
        go_wp2_with (first
          | (go_at_call 4; refine HLI.out.mono ?_; rintro e w1 ⟨rfl, hb1⟩; (have HB1 := Lib.hid (HB.out.st hb1)); (have k4 := cell_later hb1 p4); (have k7 := cell_later hb1 p7); clear hb1)
          | (go_at_call 5; refine (HAL.out _).mono ?_; rintro e w2 ⟨rfl, hb2⟩; (have HB2 := Lib.hid (HB1.out.st hb2)); clear hb2))
        go_ret
        exact ⟨rfl, HB2.out⟩
      · have HBA := Lib.hid (fun W (hz : Below V.heap.size V W) => built_any g ao ro cap rc h1 s1 r W (HCS.out.1.go hz) (HCS.out.2.1.go hz) (fun k => by have := HG.out k; omega) (by omega) (by omega))
        have HBB := Lib.hid (fun W (hz : Below V.heap.size V W) => built_any g ao qo cap qc h2 s2 q W (HCS.out.1.go hz) (HCS.out.2.2.go hz) (fun k => by have := HG.out k; omega) (by omega) (by omega))
        have HZ := Lib.hid (fun h s r => show buildB g h s r = 0 → rightG g = 0 from fun k => by
          unfold buildB at k
          split at k
          · cases k
          · rename_i hn
            exact Decidable.byContradiction fun e => hn (.inl e))
        have HZ1 := Lib.hid (HZ.out h1 s1 r)
        have HZ2 := Lib.hid (HZ.out h2 s2 q)
        generalize buildB g h1 s1 r = k1 at *
        generalize buildB g h2 s2 q = k2 at *
        go_enter Try.func3, Try.ntmps3
        go_upto_region 1 with (fail)
        rw [← HV.out]
        go_upto_region 3 with (go_at_call 4; refine HLI.out.mono ?_; rintro e w1 ⟨rfl, hb1⟩; (have HB1 := Lib.hid hb1); (obtain ⟨x0, x1, x2, x3, x4, x5, x6, x7⟩ := HQ.out.go hb1); clear hb1)
        go_upto_region 4 with (go_at_call 6; refine (HBA.out _ HB1.out).mono ?_; rintro e w2 hp2; (obtain ⟨pa, rfl, hb2, hh2⟩ := hp2.two); (have HH2 := Lib.hid hh2); (have HB2 := Lib.hid (HB1.out.st hb2)); (obtain ⟨y0, y1, y2, y3, y4, y5, y6, y7⟩ := (HQ.out.go HB1.out).go hb2); clear hb2 hp2 hh2)
        clear x0 x1 x2 x3 x4 x5 x6 x7
        go_upto_region 5 with (go_at_call 6; refine (HBB.out _ HB2.out).mono ?_; rintro e w3 hp3; (obtain ⟨pb, rfl, hb3, hh3⟩ := hp3.two); (have HH3 := Lib.hid hh3); (have HB23 := Lib.hid hb3); (have HB3 := Lib.hid (HB2.out.st hb3)); clear hb3 hp3 hh3)
        by_cases e1 : k1 = 0
        · by_cases e2 : k2 = 0
          · have hgz := HZ1.out e1
            obtain ⟨ha, Ra, Sa, ra, epa, bha⟩ := HH2.out e1 hgz (HG.out hgz)
            obtain ⟨hb, Rb, Sb, rb, epb, bhb⟩ := HH3.out e2 hgz (HG.out hgz)
            subst epa
            subst epb
            have HDA := Lib.hid (fun W x y (hz : Below w2.heap.size w2 W) => dist_any ha g.n.toNat g.es Ra Sa ra x y W (bha.go hz))
            have HDB := Lib.hid (fun W x y (hz : Below w3.heap.size w3 W) => dist_any hb g.n.toNat g.es Rb Sb rb x y W (bhb.go hz))
            have HPO := Lib.hid (show ∀ u v w, arcG g.es u v w → 1 ≤ w from (bha.ok.hierB false).pos)
            unfold DistPost at HDA HDB
            subst e1
            subst e2
            clear hgz bha bhb
            go_upto_region 8 with (go_at_call 7; refine (HDA.out _ _ _ HB23.out).mono ?_; rintro e w4 ⟨⟨dst, kx, rfl, hd4⟩, hb4⟩; (have HD4 := Lib.hid hd4); (have HB4 := Lib.hid (HB23.out.st hb4)); (have HE4 := Lib.hid hb4); clear hd4 hb4)
            go_upto_region 9 with (go_at_call 7; refine (HDA.out _ _ _ HB4.out).mono ?_; rintro e w5 ⟨⟨dsv, ky, rfl, hd5⟩, hb5⟩; (have HD5 := Lib.hid hd5); (have HB5 := Lib.hid (HB4.out.st hb5)); (have HE5 := Lib.hid (HE4.out.st hb5)); clear hd5 hb5)
            go_upto_region 10 with (go_at_call 7; refine (HDA.out _ _ _ HB5.out).mono ?_; rintro e w6 ⟨⟨dvt, kz, rfl, hd6⟩, hb6⟩; (have HD6 := Lib.hid hd6); (have HB6 := Lib.hid (HB5.out.st hb6)); (have HE6 := Lib.hid (HE5.out.st hb6)); clear hd6 hb6)
            by_cases hy : ky = 0
            · subst hy
              by_cases hz : kz = 0
              · subst hz
                obtain ⟨rfl, h10, q0, q1, q2, q3⟩ := thirds HPO.out HD4.out HD5.out HD6.out
                have h11 : ¬ dsv + dvt < dst := by omega
                go_upto_region 13 with (go_at_call 7; refine (HDB.out _ _ _ HE6.out).mono ?_; rintro e w7 ⟨⟨oth, kw, rfl, hd7⟩, hb7⟩; (have HD7 := Lib.hid hd7); (have HB7 := Lib.hid (HE6.out.st hb7)); clear hd7 hb7)
                obtain ⟨u1, u2⟩ := HD7.out.uniq HD4.out
                subst u1
                subst u2
                clear HD7 HD4 HD5 HD6
                go_wp2_with (go_at_call 5; refine (HAL.out _).mono ?_; rintro e w8 ⟨rfl, hb8⟩; (have HB8 := Lib.hid hb8); clear hb8)
                go_ret
                exact ⟨rfl, HB.out.st ((HB3.out.st HB7.out).st HB8.out)⟩
              · have g2 : (kz == 0) = false := by simpa using hz
                clear hz
                go_upto_region 13 with (go_at_call 7; refine (HDB.out _ _ _ HE6.out).mono ?_; rintro e w7 ⟨⟨oth, kw, rfl, hd7⟩, hb7⟩; (have HD7 := Lib.hid hd7); (have HB7 := Lib.hid (HE6.out.st hb7)); clear hd7 hb7)
                obtain ⟨u1, u2⟩ := HD7.out.uniq HD4.out
                subst u1
                subst u2
                clear HD7 HD4 HD5 HD6
                go_wp2_with (go_at_call 5; refine (HAL.out _).mono ?_; rintro e w8 ⟨rfl, hb8⟩; (have HB8 := Lib.hid hb8); clear hb8)
                go_ret
                exact ⟨rfl, HB.out.st ((HB3.out.st HB7.out).st HB8.out)⟩
            · have g2 : (ky == 0) = false := by simpa using hy
              clear hy
              go_upto_region 13 with (go_at_call 7; refine (HDB.out _ _ _ HE6.out).mono ?_; rintro e w7 ⟨⟨oth, kw, rfl, hd7⟩, hb7⟩; (have HD7 := Lib.hid hd7); (have HB7 := Lib.hid (HE6.out.st hb7)); clear hd7 hb7)
              obtain ⟨u1, u2⟩ := HD7.out.uniq HD4.out
              subst u1
              subst u2
              clear HD7 HD4 HD5 HD6
              go_wp2_with (go_at_call 5; refine (HAL.out _).mono ?_; rintro e w8 ⟨rfl, hb8⟩; (have HB8 := Lib.hid hb8); clear hb8)
              go_ret
              exact ⟨rfl, HB.out.st ((HB3.out.st HB7.out).st HB8.out)⟩
          · have hk2 : (k2 != 0) = true := by simpa using e2
            subst e1
            clear e2
            go_wp2_with (go_at_call 5; refine (HAL.out _).mono ?_; rintro e w8 ⟨rfl, hb8⟩; (have HB8 := Lib.hid hb8); clear hb8)
            go_ret
            exact ⟨rfl, HB.out.st (HB3.out.st HB8.out)⟩
        · have hk1 : (k1 != 0) = true := by simpa using e1
          clear e1
          go_wp2_with (go_at_call 5; refine (HAL.out _).mono ?_; rintro e w8 ⟨rfl, hb8⟩; (have HB8 := Lib.hid hb8); clear hb8)
          go_ret
          exact ⟨rfl, HB.out.st (HB3.out.st HB8.out)⟩
end Go.Proofs.Ytkdomobedfhhgaa
