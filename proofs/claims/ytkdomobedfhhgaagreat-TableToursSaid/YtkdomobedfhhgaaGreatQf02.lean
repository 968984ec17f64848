/-
  Walk of the law QueryDists.
-/
import Derived.Test.YtkdomobedfhhgaaGreatProg
import Derived.Test.YtkdomobedfhhgaaGreatQc03
import Derived.Test.YtkdomobedfhhgaaGreatQf01
import Derived.Test.YtkdomobedfhhgaaGreatQc04
set_option linter.unusedVariables false
set_option linter.unusedSimpArgs false
set_option linter.unnecessarySimpa false
namespace Go.Proofs.YtkdomobedfhhgaaGreat
open Go Go.Proofs Go.RowKit Go.Shelf Go.Proofs.YtkdomobedfhhgaaGreat.Hp Go.Proofs.YtkdomobedfhhgaaGreat.Ch

theorem BltPost.nil {g : GD} {k : Int} {w w' : World} {e : Ending} (h : BltPost g k w e w') (hk : k ≠ 0) : e = .returned (.tuple #[.pointer none, .int .i64 k]) ∧ Below w.heap.size w w' := by
  obtain ⟨h1 | h1, h2⟩ := h
  · exact absurd h1.1 hk
  · exact ⟨h1.2, h2⟩
theorem build_right {g : GD} {h s : Int} {r : List Int} (k : buildB g h s r = 0) : rightG g = 0 := by
  unfold buildB at k
  split at k
  · cases k
  · rename_i hn
    exact Decidable.byContradiction fun e => hn (.inl e)
/-- the boxes of the arguments -/
structure QB1 (W : World) (b : Nat) (g : GD) (ao : Option Addr) (cap : Nat) (h1 s1 : Int) (ro : Option Addr) (r : List Int) (rc : Nat) : Prop where
  g0 : W.cell? ⟨b, 0, none⟩ = some (.int .i64 g.n)
  g1 : W.cell? ⟨b, 1, none⟩ = some (.slice ao g.es.length cap)
  a0 : W.cell? ⟨b + 1, 0, none⟩ = some (.int .i64 h1)
  a1 : W.cell? ⟨b + 1, 1, none⟩ = some (.int .i64 s1)
  a2 : W.cell? ⟨b + 1, 2, none⟩ = some (.slice ro r.length rc)
theorem QB1.go {W W' : World} {b : Nat} {g : GD} {ao : Option Addr} {cap : Nat} {h1 s1 : Int} {ro : Option Addr} {r : List Int} {rc : Nat} (h : QB1 W b g ao cap h1 s1 ro r rc) (hz : Below W.heap.size W W') : QB1 W' b g ao cap h1 s1 ro r rc :=
  ⟨cell_later hz h.g0, cell_later hz h.g1, cell_later hz h.a0, cell_later hz h.a1, cell_later hz h.a2⟩
/-- Dist, where it is known how far it is -/
theorem dist_k {hb n : Nat} {es : List EdgeD} {R : List Int} {S : List SC} {ro : List Int} {s t d k : Int} {w : World} (h : BH w hb n es R S ro) (hd : DistIs n (arcG es) s t d k) :
    Calls Tryz.prog 17 #[.pointer (some ⟨hb, 0, none⟩), .int .i64 s, .int .i64 t] w fun e w' => e = .returned (.tuple #[.int .u64 d, .int .i64 k]) ∧ Below w.heap.size w w' := by
  refine (dist_any hb n es R S ro s t w h).mono ?_
  rintro e w' ⟨⟨d', k', rfl, h'⟩, hb'⟩
  obtain ⟨rfl, rfl⟩ := hd.uniq h'
  exact ⟨rfl, hb'⟩
theorem peaks_bad {hb n : Nat} {es : List EdgeD} {R : List Int} {S : List SC} {ro : List Int} {s t k : Int} {w : World} (h : BH w hb n es R S ro) (hd : DistIs n (arcG es) s t 0 k) (hk : k ≠ 0) :
    Calls Tryz.prog 18 #[.pointer (some ⟨hb, 0, none⟩), .int .i64 s, .int .i64 t] w fun e w' => (∃ a c, e = .returned (.tuple #[.slice a 0 c, .int .i64 k])) ∧ Below w.heap.size w w' := by
  refine (peaks_any hb n es R S ro s t w h).mono ?_
  rintro e w' ⟨⟨a, c, l, k', rfl, h1, h2⟩, hb'⟩
  rcases h2 with ⟨_, rfl, h2⟩ | ⟨rfl, u, v, d, la, lb, _, _, _, _, _, _, _, h2, _⟩
  · obtain ⟨_, rfl⟩ := hd.uniq h2
    exact ⟨⟨a, c, rfl⟩, hb'⟩
  · exact absurd (hd.uniq h2).2 hk
theorem meet_bad {hb n : Nat} {es : List EdgeD} {R : List Int} {S : List SC} {ro : List Int} {s t k : Int} {w : World} (h : BH w hb n es R S ro) (hd : DistIs n (arcG es) s t 0 k) (hk : k ≠ 0) :
    Calls Tryz.prog 19 #[.pointer (some ⟨hb, 0, none⟩), .int .i64 s, .int .i64 t] w fun e w' => e = .returned (.tuple #[.int .i64 (-1), .int .u64 0, .int .i64 k]) ∧ Below w.heap.size w w' := by
  refine (meet_any hb n es R S ro s t w h).mono ?_
  rintro e w' ⟨⟨v, d, k', rfl, h2⟩, hb'⟩
  rcases h2 with ⟨_, rfl, rfl, h2⟩ | ⟨rfl, h2, _⟩
  · obtain ⟨_, rfl⟩ := hd.uniq h2
    exact ⟨rfl, hb'⟩
  · exact absurd (hd.uniq h2).2 hk
/-- the row of all nodes where both ends meet -/
def MeetIs (A : Int → Int → Int → Prop) (r : Int → Int) (s t d : Int) (l : List Int) : Prop := l.Pairwise (· < ·) ∧ ∀ v, v ∈ l ↔ MeetAt A r s t d v
theorem MeetIs.uniq {A : Int → Int → Int → Prop} {r : Int → Int} {s t d : Int} {l l' : List Int} (h : MeetIs A r s t d l) (h' : MeetIs A r s t d l') : l = l' := sorted_eq h.1 h'.1 fun v => (h.2 v).trans (h'.2 v).symm
theorem peaks_good {hb n : Nat} {es : List EdgeD} {R : List Int} {S : List SC} {ro : List Int} {s t d : Int} {w : World} (h : BH w hb n es R S ro) (hd : DistIs n (arcG es) s t d 0) :
    Calls Tryz.prog 18 #[.pointer (some ⟨hb, 0, none⟩), .int .i64 s, .int .i64 t] w fun e w' => (∃ (a : Option Addr) (c : Nat) (l : List Int), e = .returned (.tuple #[.slice a l.length c, .int .i64 0]) ∧ Cel w' a (l.map encI) ∧ MeetIs (arcG es) (rk ro) s t d l) ∧ Below w.heap.size w w' := by
  have hok := h.ok
  refine (peaks_any hb n es R S ro s t w h).mono ?_
  rintro e w' ⟨⟨a, c, l, k', rfl, h1, h2⟩, hb'⟩
  rcases h2 with ⟨hk, rfl, h2⟩ | ⟨rfl, u, v, d', la, lb, rfl, rfl, hu, hv, ha, hb2, hp, h2, rfl⟩
  · exact absurd (hd.uniq h2).2.symm hk
  · obtain ⟨rfl, _⟩ := hd.uniq h2
    rcases hd with ⟨_, _, _, hd, _⟩ | ⟨h, _⟩ | ⟨h, _⟩
    · exact ⟨⟨a, c, _, rfl, h1, peaksL_meet hok ha hb2 hp hd⟩, hb'⟩
    · cases h
    · cases h
theorem meet_good {hb n : Nat} {es : List EdgeD} {R : List Int} {S : List SC} {ro : List Int} {s t d : Int} {w : World} (h : BH w hb n es R S ro) (hd : DistIs n (arcG es) s t d 0) :
    Calls Tryz.prog 19 #[.pointer (some ⟨hb, 0, none⟩), .int .i64 s, .int .i64 t] w fun e w' => (∃ (v : Int) (rest : List Int), e = .returned (.tuple #[.int .i64 v, .int .u64 d, .int .i64 0]) ∧ MeetIs (arcG es) (rk ro) s t d (v :: rest)) ∧ Below w.heap.size w w' := by
  have hok := h.ok
  refine (meet_any hb n es R S ro s t w h).mono ?_
  rintro e w' ⟨⟨v, d', k', rfl, h2⟩, hb'⟩
  rcases h2 with ⟨hk, rfl, rfl, h2⟩ | ⟨rfl, h2, x, y, la, lb, rest, rfl, rfl, hx, hy, ha, hb2, hp, e⟩
  · exact absurd (hd.uniq h2).2.symm hk
  · obtain ⟨rfl, _⟩ := hd.uniq h2
    rcases hd with ⟨_, _, _, hd, _⟩ | ⟨h, _⟩ | ⟨h, _⟩
    · refine ⟨⟨v, rest, rfl, ?_⟩, hb'⟩
      rw [← e]
      exact peaksL_meet hok ha hb2 hp hd
    · cases h
    · cases h
theorem MeetRow.is {es : List EdgeD} {n : Nat} {r : Int → Int} {s t d : Int} {l : List Int} (hN : ∀ u v w, arcG es u v w → nodeN n u ∧ nodeN n v) (hs : nodeN n s) (h : MeetRow (arcG es) r s t d n l) : MeetIs (arcG es) r s t d l :=
  ⟨h.1, fun v => (h.2 v).trans ⟨fun k => k.2, fun k => ⟨by
    obtain ⟨p, q, _, h1, _⟩ := k
    rcases h1.2.1.1 with ⟨e, _⟩ | hw
    · rw [← e]; exact hs
    · exact (hw.nodes hN).2, k⟩⟩⟩
theorem head_cell {w : World} {ao : Option Addr} {l rest : List Int} {v : Int} (hl : l = v :: rest) (h : Cel w ao (l.map encI)) : ∃ b o, ao = some ⟨b, o, none⟩ ∧ w.cell? ⟨b, o, none⟩ = some (.int .i64 v) := by
  subst hl
  obtain ⟨b, o, e, h1⟩ := h.at (i := 0) (by simp)
  exact ⟨b, o, e, h1⟩
/-- the ranks of a hierarchy -/
theorem run_fieldR (a b : Option Addr) (l k m q : Nat) (w : World) : (Instr.field 45 (.agg #[.slice a l k, .slice b m q]) 0).run Tryz.prog w = .ok (.slice a l k) w := by
  kernel_rfl
set_option maxRecDepth 100000 in
set_option maxHeartbeats 4000000 in
theorem QueryDists_any (g : GD) (ao : Option Addr) (cap : Nat) (h1 s1 : Int) (ro : Option Addr) (r : List Int) (rc : Nat) (s t : Int) (w : World) (hc : Cel w ao (flat g.es)) (hr : Cel w ro (r.map encI)) :
    Calls Tryz.prog 3 #[.agg #[.int .i64 g.n, .slice ao g.es.length cap], .agg #[.int .i64 h1, .int .i64 s1, .slice ro r.length rc], .int .i64 s, .int .i64 t] w fun e w' => e = .returned (.bool true) ∧ Below w.heap.size w w' := by
  obtain ⟨V, hV⟩ : ∃ V, V = (w.alloc (Obj.cells #[.int .i64 g.n, .slice ao g.es.length cap] 24)).alloc (Obj.cells #[.int .i64 h1, .int .i64 s1, .slice ro r.length rc] 27) := ⟨_, rfl⟩
  have hbV : Below w.heap.size w V := by rw [hV]; exact (Below.of_al _ _).al _
  have HQ := Lib.hid (show QB1 V w.heap.size g ao cap h1 s1 ro r rc by rw [hV]; constructor <;> go_simp)
  have HAL := Lib.hid alive23_any
  have HLI := Lib.hid (light20_any g.n g.es ao cap V)
  have HB := Lib.hid hbV
  have HV := Lib.hid hV
  obtain ⟨p0, p1, p2, p3, p4⟩ := HQ.out
  have HCS := Lib.hid (And.intro (hc.go hbV) (hr.go hbV))
  clear hbV hV hc hr
  cases hl : light20 g.n g.es with
  | false =>
    rw [hl] at HLI
    clear hl
    go_enter Tryz.func3, Tryz.ntmps3
    go_upto_region 1 with (fail)
    rw [← HV.out]
    go_wp2_with (first
      | (go_at_call 14; refine HLI.out.mono ?_; rintro e w1 ⟨rfl, hb1⟩; (have HB1 := Lib.hid (HB.out.st hb1)); clear hb1)
      | (go_at_call 15; refine (HAL.out _).mono ?_; rintro e w2 ⟨rfl, hb2⟩; (have HB2 := Lib.hid (HB1.out.st hb2)); clear hb2))
    go_ret
    exact ⟨rfl, HB2.out⟩
  | true =>
    obtain ⟨hg, hes⟩ := light20_small hl
    have HG := Lib.hid hg
    rw [hl] at HLI
    clear hl hg
    by_cases hr6 : (60 : Int) < (r.length : Int)
    · go_enter Tryz.func3, Tryz.ntmps3
      go_upto_region 1 with (fail)
      rw [← HV.out]
      go_wp2_with (first
        | (go_at_call 14; refine HLI.out.mono ?_; rintro e w1 ⟨rfl, hb1⟩; (have HB1 := Lib.hid (HB.out.st hb1)); (have k4 := cell_later hb1 p4); clear hb1)
        | (go_at_call 15; refine (HAL.out _).mono ?_; rintro e w2 ⟨rfl, hb2⟩; (have HB2 := Lib.hid (HB1.out.st hb2)); clear hb2))
      go_ret
      exact ⟨rfl, HB2.out⟩
    · have HBA := Lib.hid (fun W (hz : Below V.heap.size V W) => built_any g ao ro cap rc h1 s1 r W (HCS.out.1.go hz) (HCS.out.2.go hz) (fun k => by have := HG.out k; omega) (by omega) (by omega))
      have HZ := Lib.hid (fun k : buildB g h1 s1 r = 0 => build_right k)
      generalize buildB g h1 s1 r = k1 at *
      by_cases e1 : k1 = 0
      · subst e1
        have hgz := HZ.out rfl
        have hn := HG.out hgz
        have hgn := right_n hgz
        obtain ⟨n, hnn⟩ : ∃ n : Nat, g.n = (n : Int) := ⟨g.n.toNat, by omega⟩
        obtain ⟨gn, es⟩ := g
        simp only at hnn hn hes
        subst hnn
        have hn12 : n ≤ 12 := by omega
        have hes40 : es.length ≤ 40 := by omega
        have HFR := Lib.hid (fun (u : Nat) (hu : u < n) W (hz : Below V.heap.size V W) => refFar_any n u es ao cap false W hgz hn12 hes40 hu (HCS.out.1.go hz))
        have HPE := Lib.hid (fun (u v : Nat) (hu : u < n) (hv : v < n) R S po (hok : HierOK es n R S po) ra rc d hd hd2 W (hz : Below V.heap.size V W) hR => refPeaks_any n u v es R S po ao ra cap rc d W hgz hok hn12 hes40 hu hv hd hd2 (HCS.out.1.go hz) hR)
        have HGZ := Lib.hid hgz
        clear hgz HZ
        go_enter Tryz.func3, Tryz.ntmps3
        go_upto_region 1 with (fail)
        rw [← HV.out]
        go_upto_region 3 with (go_at_call 14; refine HLI.out.mono ?_; rintro e w1 ⟨rfl, hb1⟩; (have HB1 := Lib.hid hb1); (obtain ⟨x0, x1, x2, x3, x4⟩ := HQ.out.go hb1); clear hb1)
        go_upto_region 4 with (go_at_call 16; refine (HBA.out _ HB1.out).mono ?_; rintro e w2 hp2; (obtain ⟨hb, R, S, po, rfl, hbh, hb2⟩ := hp2.good rfl HGZ.out hn); (have HH := Lib.hid (show BH w2 hb n es R S po from hbh)); (have HB2 := Lib.hid (HB1.out.st hb2)); (have z0 := cell_later hb2 x0); (have z1 := cell_later hb2 x1); clear hb2 hp2 hbh)
        clear x0 x1 x2 x3 x4 p0 p1 p2 p3 p4
        go_upto_region 5 with (go_at_call 17; refine (dist_any hb n es R S po s t _ HH.out).mono ?_; rintro e w3 ⟨⟨d, kd, rfl, hd⟩, hb3⟩; (have HD := Lib.hid hd); (have HH3 := Lib.hid (HH.out.go hb3)); (have HB3 := Lib.hid (HB2.out.st hb3)); (have c0 := cell_later hb3 z0); (have c1 := cell_later hb3 z1); clear hb3 hd)
        clear z0 z1
        have HDD := Lib.hid HD.out
        rcases HD.out with ⟨rfl, hs, ht, hdd, hdb⟩ | ⟨rfl, rfl, hs, ht, hno⟩ | ⟨rfl, rfl, hst⟩
        · -- as far as d
          obtain ⟨u, rfl⟩ : ∃ u : Nat, s = u := ⟨s.toNat, by have := hs.1; omega⟩
          obtain ⟨v, rfl⟩ : ∃ v : Nat, t = v := ⟨t.toNat, by have := ht.1; omega⟩
          have hu : u < n := by have := hs.2; omega
          have hv : v < n := by have := ht.2; omega
          have hH := HH.out.ok.hierB false
          have HFD := Lib.hid (fun (dd : List Int) (h : AllIs es n (u : Int) false [] dd) => show gD dd (v : Int) = d from by
            rcases h.far hH.pos (v := (v : Int)) ht with ⟨k, _⟩ | ⟨_, k⟩
            · exact k.uniq hdd
            · exact absurd hdd.1 (k _))
          have HP := Lib.hid (fun W (hz : Below w3.heap.size w3 W) => peaks_good (HH3.out.go hz) HDD.out)
          have HM := Lib.hid (fun W (hz : Below w3.heap.size w3 W) => meet_good (HH3.out.go hz) HDD.out)
          have HHI := Lib.hid (fun W (hz : Below w3.heap.size w3 W) => hierarchy_any hb n es R S _ _ W (HH3.out.go hz).mem (by omega))
          have HRP := Lib.hid (fun W (hz : Below V.heap.size V W) ra rc hR => HPE.out u v hu hv R S po HH.out.ok ra rc d hdd hdb W hz hR)
          have HMI := Lib.hid (fun l (h : MeetRow (arcG es) (rk po) (u : Int) (v : Int) d n l) => h.is hH.node hs)
          have HF2 := Lib.hid (HFR.out u hu)
          have hlb : ((R.length : Int) != (n : Int)) = false := by have := HH.out.ok.len; simp; omega
          have hdF : ¬ 4611686018427387904 ≤ d := by omega
          have hd0 : 0 ≤ d := hdd.1.nonneg hH.pos
          have s0 := hs.1
          have s1 := hs.2
          have t0 := ht.1
          have t1 := ht.2
          have hfd := run_fieldR
          unfold AllPost at HF2
          unfold CHPost at HHI
          unfold RefPeaks at HRP
          clear hs ht hdd HD hH
          go_wp2_with (first
            | (go_at_call 18; refine (HP.out _ (Below.refl _ _)).mono ?_; rintro e w4 ⟨⟨pa, pc, l, rfl, hcl, hl⟩, hb4⟩; (have HL := Lib.hid hl); (have HC4 := Lib.hid hcl); (have HS4 := Lib.hid hb4); (have d0 := cell_later hb4 c0); (have d1 := cell_later hb4 c1); clear hb4 hcl hl)
            | (go_at_call 19; refine (HM.out _ HS4.out).mono ?_; rintro e w5 ⟨⟨vm, rest, rfl, hl⟩, hb5⟩; (have HLV := Lib.hid (HL.out.uniq hl)); (have hl0 : (0 : Int) < (l.length : Int) := by rw [HLV.out]; show (0 : Int) < ((rest.length + 1 : Nat) : Int); omega); (have HC5 := Lib.hid (HC4.out.go hb5)); (have HS5 := Lib.hid (HS4.out.st hb5)); (have e0 := cell_later hb5 d0); (have e1 := cell_later hb5 d1); clear hb5 hl)
            | (go_at_call 20; refine (HF2.out _ (HB3.out.st HS5.out)).mono ?_; rintro e w6 ⟨fb, dd, rfl, h1, h2, h3, h4⟩; (have k6 := row_at h1 h4.1 hv); rw [HFD.out dd h4] at k6; (have HC6 := Lib.hid (HC5.out.go h2)); (have HS6 := Lib.hid (HS5.out.st h2)); (have f0 := cell_later h2 e0); (have f1 := cell_later h2 e1); clear h1 h2 h3 h4)
            | (go_at_call 21; refine (HHI.out _ HS6.out).mono ?_; rintro e w7 ⟨a1, q1, b1, q2, rfl, h1, h2, hb7, hf1, hf2⟩; (have HC7 := Lib.hid (HC6.out.go hb7)); (have HR7 := Lib.hid h1); (have HS7 := Lib.hid (HS6.out.st hb7)); (have g0 := cell_later hb7 f0); (have g1 := cell_later hb7 f1); clear h1 h2 hb7 hf1 hf2)
            | (go_at_call 22; refine (HRP.out _ (HB3.out.st HS7.out) _ _ HR7.out).mono ?_; rintro e w8 ⟨xa, xc, l2, rfl, h1, h2, h3⟩; (obtain rfl := (HMI.out l2 h3).uniq HL.out); (obtain ⟨xb, xo, rfl, y8⟩ := head_cell HLV.out h1); (have HC8 := Lib.hid (HC7.out.go h2)); (have HX8 := Lib.hid h1); (have HS8 := Lib.hid (HS7.out.st h2)); (have HLL := Lib.hid h3.len); clear h1 h2 h3)
            | (go_at_call 23; refine (sameInts_any _ _ _ _ _ _ _ (by have := HLL.out; omega) (by have := HLL.out; omega) HC8.out HX8.out).mono ?_; rintro e w9 ⟨rfl, nq, rfl⟩; (have y9 := cell_later (Below.of_dr w8 nq) y8); (have HS9 := Lib.hid (HS8.out.st (Below.of_dr w8 nq))))
            | (go_at_call 15; refine (HAL.out _).mono ?_; rintro e w6 ⟨rfl, hb6⟩; (have HS10 := Lib.hid (HS9.out.st hb6)); clear hb6))
          go_ret
          exact ⟨rfl, HB.out.st (HB3.out.st HS10.out)⟩
        · -- there is no way
          obtain ⟨u, rfl⟩ : ∃ u : Nat, s = u := ⟨s.toNat, by have := hs.1; omega⟩
          obtain ⟨v, rfl⟩ : ∃ v : Nat, t = v := ⟨t.toNat, by have := ht.1; omega⟩
          have hu : u < n := by have := hs.2; omega
          have hv : v < n := by have := ht.2; omega
          have hH := HH.out.ok.hierB false
          have HFD := Lib.hid (fun (dd : List Int) (h : AllIs es n (u : Int) false [] dd) => show gD dd (v : Int) = 4611686018427387904 from by
            rcases h.far hH.pos (v := (v : Int)) ht with ⟨k, _⟩ | ⟨k, _⟩
            · exact absurd k.1 (hno _)
            · exact k)
          have HP := Lib.hid (fun W (hz : Below w3.heap.size w3 W) => peaks_bad (HH3.out.go hz) HDD.out (by decide))
          have HM := Lib.hid (fun W (hz : Below w3.heap.size w3 W) => meet_bad (HH3.out.go hz) HDD.out (by decide))
          have HF2 := Lib.hid (HFR.out u hu)
          have s0 := hs.1
          have s1 := hs.2
          have t0 := ht.1
          have t1 := ht.2
          unfold AllPost at HF2
          clear hs ht HD hH hno
          go_wp2_with (first
            | (go_at_call 18; refine (HP.out _ (Below.refl _ _)).mono ?_; rintro e w4 ⟨⟨pa, pc, rfl⟩, hb4⟩; (have HS4 := Lib.hid hb4); (have d0 := cell_later hb4 c0); (have d1 := cell_later hb4 c1); clear hb4)
            | (go_at_call 19; refine (HM.out _ HS4.out).mono ?_; rintro e w5 ⟨rfl, hb5⟩; (have HS5 := Lib.hid (HS4.out.st hb5)); (have e0 := cell_later hb5 d0); (have e1 := cell_later hb5 d1); clear hb5)
            | (go_at_call 20; refine (HF2.out _ (HB3.out.st HS5.out)).mono ?_; rintro e w6 ⟨fb, dd, rfl, h1, h2, h3, h4⟩; (have k6 := row_at h1 h4.1 hv); rw [HFD.out dd h4] at k6; (have HS6 := Lib.hid (HS5.out.st h2)); clear h1 h2 h3 h4)
            | (go_at_call 15; refine (HAL.out _).mono ?_; rintro e w7 ⟨rfl, hb7⟩; (have HS7 := Lib.hid (HS6.out.st hb7)); clear hb7))
          go_ret
          exact ⟨rfl, HB.out.st (HB3.out.st HS7.out)⟩
        · -- nodes that are not there
          have hcase : s < 0 ∨ (¬ s < 0 ∧ (n : Int) ≤ s) ∨ (¬ s < 0 ∧ ¬ (n : Int) ≤ s ∧ t < 0) ∨ (¬ s < 0 ∧ ¬ (n : Int) ≤ s ∧ ¬ t < 0 ∧ (n : Int) ≤ t) := by
            unfold nodeN at hst
            omega
          have HP := Lib.hid (fun W (hz : Below w3.heap.size w3 W) => peaks_bad (HH3.out.go hz) HDD.out (by decide))
          have HM := Lib.hid (fun W (hz : Below w3.heap.size w3 W) => meet_bad (HH3.out.go hz) HDD.out (by decide))
          clear hst HD
          rcases hcase with h1 | ⟨h1, h2⟩ | ⟨h1, h2, h3⟩ | ⟨h1, h2, h3, h4⟩
          all_goals
            go_wp2_with (first
              | (go_at_call 18; refine (HP.out _ (Below.refl _ _)).mono ?_; rintro e w4 ⟨⟨pa, pc, rfl⟩, hb4⟩; (have HS4 := Lib.hid hb4); (have d0 := cell_later hb4 c0); clear hb4)
              | (go_at_call 19; refine (HM.out _ HS4.out).mono ?_; rintro e w5 ⟨rfl, hb5⟩; (have HS5 := Lib.hid (HS4.out.st hb5)); (have e0 := cell_later hb5 d0); clear hb5)
              | (go_at_call 15; refine (HAL.out _).mono ?_; rintro e w7 ⟨rfl, hb7⟩; (have HS7 := Lib.hid (HS5.out.st hb7)); clear hb7))
            go_ret
            exact ⟨rfl, HB.out.st (HB3.out.st HS7.out)⟩
      · have HE := Lib.hid e1
        have hk1 : (k1 != 0) = true := by simpa using e1
        clear e1
        go_enter Tryz.func3, Tryz.ntmps3
        go_upto_region 1 with (fail)
        rw [← HV.out]
        go_wp2_with (first
          | (go_at_call 14; refine HLI.out.mono ?_; rintro e w1 ⟨rfl, hb1⟩; (have HB1 := Lib.hid hb1); (obtain ⟨x0, x1, x2, x3, x4⟩ := HQ.out.go hb1); clear hb1)
          | (go_at_call 16; refine (HBA.out _ HB1.out).mono ?_; rintro e w2 hp2; (obtain ⟨rfl, hb2⟩ := hp2.nil HE.out); (have HB2 := Lib.hid (HB1.out.st hb2)); clear hb2 hp2)
          | (go_at_call 17; refine (dist_nil _ _ _).mono ?_; rintro e w3 ⟨rfl, hb3⟩; (have HB3 := Lib.hid (HB2.out.st hb3)); clear hb3)
          | (go_at_call 18; refine (peaks_nil _ _ _).mono ?_; rintro e w4 ⟨rfl, hb4⟩; (have HB4 := Lib.hid (HB3.out.st hb4)); clear hb4)
          | (go_at_call 19; refine (meet_nil _ _ _).mono ?_; rintro e w5 ⟨rfl, hb5⟩; (have HB5 := Lib.hid (HB4.out.st hb5)); clear hb5)
          | (go_at_call 15; refine (HAL.out _).mono ?_; rintro e w6 ⟨rfl, hb6⟩; (have HB6 := Lib.hid (HB5.out.st hb6)); clear hb6))
        go_ret
        exact ⟨rfl, HB.out.st HB6.out⟩
end Go.Proofs.YtkdomobedfhhgaaGreat
