/-
  Walk of the law UpwardPeaks.
  Proved here: for every input, the law UpwardPeaks answers true, and the arguments read afterwards as they read before (no condition).
-/
import Derived.Test.YtkdomobedfhhgaaGreatProg
import Derived.Test.YtkdomobedfhhgaaGreatQh01
import Derived.Test.YtkdomobedfhhgaaGreatQc03
import Derived.Test.YtkdomobedfhhgaaGreatQf02
import Derived.Test.YtkdomobedfhhgaaGreatRows
import Derived.Test.YtkdomobedfhhgaaGreatQc04
set_option linter.unusedVariables false
set_option linter.unusedSimpArgs false
set_option linter.unnecessarySimpa false
section
namespace Go.Proofs.YtkdomobedfhhgaaGreat
open Go Go.Proofs Go.RowKit Go.Shelf Go.Proofs.YtkdomobedfhhgaaGreat.Hp Go.Proofs.YtkdomobedfhhgaaGreat.Ch

/-- how far the peaks are, of the first k nodes -/
def ownL (pk : Nat → Bool) (dd : List Int) (n k : Nat) : List Int := (List.range n).map fun i => if i < k then (if pk i then gD dd (i : Int) else FAR) else 0
def cntL (pk : Nat → Bool) (k : Nat) : Nat := (List.range k).countP pk
theorem ownL_len (pk : Nat → Bool) (dd : List Int) (n k : Nat) : (ownL pk dd n k).length = n := by simp [ownL]
theorem ownL_zero (pk : Nat → Bool) (dd : List Int) (n : Nat) : ownL pk dd n 0 = List.replicate n 0 := by
  unfold ownL
  apply List.ext_getElem <;> simp
theorem ownL_set {pk : Nat → Bool} {dd : List Int} {n k : Nat} (_hk : k < n) : (ownL pk dd n k).set k (if pk k then gD dd (k : Int) else FAR) = ownL pk dd n (k + 1) := by
  apply List.ext_getElem
  · simp [ownL]
  · intro i h1 h2
    rw [List.length_set, ownL_len] at h1
    rw [List.getElem_set]
    by_cases e : k = i
    · subst e
      simp [ownL]
    · simp only [e, if_false]
      simp only [ownL, List.getElem_map, List.getElem_range]
      by_cases h : i < k
      · simp only [h, show i < k + 1 by omega, if_true]
      · simp only [h, show ¬ i < k + 1 by omega, if_false]
theorem ownL_get {pk : Nat → Bool} {dd : List Int} {n v : Nat} (hv : v < n) : gD (ownL pk dd n n) (v : Int) = if pk v then gD dd (v : Int) else FAR := by
  unfold gD
  rw [Int.toNat_natCast, List.getD_eq_getElem?_getD, List.getElem?_eq_getElem (by rw [ownL_len]; exact hv)]
  simp [ownL, hv]
  rfl
theorem cntL_succ (pk : Nat → Bool) (k : Nat) : cntL pk (k + 1) = cntL pk k + (if pk k then 1 else 0) := by
  unfold cntL
  rw [List.range_succ, List.countP_append]
  simp [List.countP_cons]
theorem cntL_le (pk : Nat → Bool) (k : Nat) : cntL pk k ≤ k := by
  have := List.countP_le_length (p := pk) (l := List.range k)
  rwa [List.length_range] at this
section
variable {A : Int → Int → Int → Prop} {r : Int → Int} {s : Int} {n : Nat} {l : List LB} {pk : Nat → Bool} {dd : List Int}
theorem peak_node (hN : ∀ u v w, A u v w → nodeN n u ∧ nodeN n v) (hs : nodeN n s) {v d : Int} (h : Peak A r s v d) : nodeN n v := by
  rcases h.2.1.1 with ⟨e, _⟩ | hw
  · rw [← e]; exact hs
  · exact (hw.nodes hN).2
theorem peak_far (hN : ∀ u v w, A u v w → nodeN n u ∧ nodeN n v) (hs : nodeN n s) (hf : ∀ v, nodeN n v → FarV A s v (gD dd v)) {v d : Int} (h : Peak A r s v d) : gD dd v = d ∧ d < FAR := by
  rcases hf v (peak_node hN hs h) with ⟨k, _, k2⟩ | ⟨_, k⟩
  · have e := k.uniq h.2.1
    exact ⟨e, by rw [← e]; unfold FAR; omega⟩
  · exact absurd h.2.1.1 (k _)
/-- labels are just the nodes that count -/
theorem peaks_are (hN : ∀ u v w, A u v w → nodeN n u ∧ nodeN n v) (hs : nodeN n s) (hf : ∀ v, nodeN n v → FarV A s v (gD dd v)) (hpk : ∀ v : Nat, v < n → (pk v = true ↔ Peak A r s (v : Int) (gD dd (v : Int)))) (h : ExIs A r s l) :
    l.length = cntL pk n ∧ (∀ a ∈ l, ∃ v : Nat, v < n ∧ a.v = (v : Int) ∧ pk v = true ∧ gD dd (v : Int) = a.d ∧ a.d < FAR) ∧ ∀ u : Nat, u < n → ownF (ownL pk dd n n) (u : Int) = labF l (u : Int) := by
  have hmem : ∀ a ∈ l, ∃ v : Nat, v < n ∧ a.v = (v : Int) ∧ pk v = true ∧ gD dd (v : Int) = a.d ∧ a.d < FAR := by
    intro a ha
    have hp := (h.2 a.v a.d).1 ⟨a, ha, rfl, rfl⟩
    obtain ⟨n0, n1⟩ := peak_node hN hs hp
    obtain ⟨v, hv⟩ : ∃ v : Nat, a.v = (v : Int) := ⟨a.v.toNat, by omega⟩
    obtain ⟨e1, e2⟩ := peak_far hN hs hf hp
    rw [hv] at e1 hp
    refine ⟨v, by omega, hv, (hpk v (by omega)).2 (by rw [e1]; exact hp), e1, e2⟩
  refine ⟨?_, hmem, ?_⟩
  · have e : l.map (·.v) = ((List.range n).filter pk).map (fun i : Nat => (i : Int)) := by
      refine sorted_eq (by rw [List.pairwise_map]; exact h.1) (by rw [List.pairwise_map]; exact (List.pairwise_lt_range.filter _).imp (fun {a b} k => by omega)) fun v => ?_
      rw [List.mem_map, List.mem_map]
      constructor
      · rintro ⟨a, ha, rfl⟩
        obtain ⟨v, k1, k2, k3, _⟩ := hmem a ha
        exact ⟨v, List.mem_filter.2 ⟨List.mem_range.2 k1, k3⟩, k2.symm⟩
      · rintro ⟨i, hi, rfl⟩
        obtain ⟨k1, k2⟩ := List.mem_filter.1 hi
        have hp := (hpk i (List.mem_range.1 k1)).1 k2
        obtain ⟨x, hx, e1, _⟩ := (h.2 _ _).2 hp
        exact ⟨x, hx, e1⟩
    have e2 := congrArg List.length e
    rw [List.length_map, List.length_map] at e2
    rw [e2]
    unfold cntL
    rw [List.countP_eq_length_filter]
  · intro u hu
    unfold ownF
    rw [ownL_get hu]
    cases hp : pk u with
    | true =>
      have h1 := (hpk u hu).1 hp
      obtain ⟨e1, e2⟩ := peak_far hN hs hf h1
      simp only [if_true]
      rw [if_pos e2]
      exact ((labF_spec h.once _ _).2 ((h.2 _ _).2 h1)).symm
    | false =>
      simp only [Bool.false_eq_true, if_false]
      rw [if_neg (by omega)]
      cases hl : labF l (u : Int) with
      | none => rfl
      | some d =>
        obtain ⟨x, hx, e1, _⟩ := (labF_spec h.once _ _).1 hl
        obtain ⟨v, _, k2, k3, _⟩ := hmem x hx
        have : v = u := by omega
        subst this
        rw [hp] at k3
        cases k3
end
theorem firstS_cong {R : List Int} {S : List SC} {f f' : Int → Option Int} {back : Bool} {v d : Int} (h : ∀ x ∈ S, f (if back then x.t else x.f) = f' (if back then x.t else x.f)) : firstS R S f back v d = firstS R S f' back v d := by
  have hm : S.map (hitS R f back v d) = S.map (hitS R f' back v d) := List.map_congr_left fun x hx => by
    unfold hitS
    rw [h x hx]
  have h1 : ∀ g : Int → Option Int, S.findIdx? (hitS R g back v d) = (S.map (hitS R g back v d)).findIdx? id := fun g => by
    rw [List.findIdx?_map]
    rfl
  unfold firstS
  have e : S.findIdx? (hitS R f back v d) = S.findIdx? (hitS R f' back v d) := by rw [h1, h1, hm]
  rw [e]
set_option maxRecDepth 100000 in
set_option maxHeartbeats 4000000 in
theorem UpwardPeaks_any (g : GD) (ao : Option Addr) (cap : Nat) (h1 s1 : Int) (ro : Option Addr) (r : List Int) (rc : Nat) (s : Int) (back : Bool) (w : World) (hc : Cel w ao (flat g.es)) (hr : Cel w ro (r.map encI)) :
    Calls Tryz.prog 6 #[.agg #[.int .i64 g.n, .slice ao g.es.length cap], .agg #[.int .i64 h1, .int .i64 s1, .slice ro r.length rc], .int .i64 s, .bool back] w fun e w' => e = .returned (.bool true) ∧ Below w.heap.size w w' := by
  obtain ⟨V, hV⟩ : ∃ V, V = (w.alloc (Obj.cells #[.int .i64 g.n, .slice ao g.es.length cap] 24)).alloc (Obj.cells #[.int .i64 h1, .int .i64 s1, .slice ro r.length rc] 27) := ⟨_, rfl⟩
  have hbV : Below w.heap.size w V := by rw [hV]; exact (Below.of_al _ _).al _
  have HQ := Lib.hid (show QB1 V w.heap.size g ao cap h1 s1 ro r rc by rw [hV]; constructor <;> go_simp)
  have HAL := Lib.hid alive22_any
  have HLI := Lib.hid (light20_any g.n g.es ao cap V)
  have HB := Lib.hid hbV
  have HV := Lib.hid hV
  obtain ⟨p0, p1, p2, p3, p4⟩ := HQ.out
  have HCS := Lib.hid (And.intro (hc.go hbV) (hr.go hbV))
  clear hbV hV hc hr
  cases hl : light20 g.n g.es with
  | false =>
    rw [hl] at HLI
    clear hl
    go_enter Tryz.func6, Tryz.ntmps6
    go_upto_region 1 with (fail)
    rw [← HV.out]
    go_wp2_with (first
      | (go_at_call 14; refine HLI.out.mono ?_; rintro e w1 ⟨rfl, hb1⟩; (have HB1 := Lib.hid (HB.out.st hb1)); clear hb1)
      | (go_at_call 28; refine (HAL.out _).mono ?_; rintro e w2 ⟨rfl, hb2⟩; (have HB2 := Lib.hid (HB1.out.st hb2)); clear hb2))
    go_ret
    exact ⟨rfl, HB2.out⟩
  | true =>
    obtain ⟨hg, hes⟩ := light20_small hl
    have HG := Lib.hid hg
    rw [hl] at HLI
    clear hl hg
    by_cases hr6 : (60 : Int) < (r.length : Int)
    · go_enter Tryz.func6, Tryz.ntmps6
      go_upto_region 1 with (fail)
      rw [← HV.out]
      go_wp2_with (first
        | (go_at_call 14; refine HLI.out.mono ?_; rintro e w1 ⟨rfl, hb1⟩; (have HB1 := Lib.hid (HB.out.st hb1)); (have k4 := cell_later hb1 p4); clear hb1)
        | (go_at_call 28; refine (HAL.out _).mono ?_; rintro e w2 ⟨rfl, hb2⟩; (have HB2 := Lib.hid (HB1.out.st hb2)); clear hb2))
      go_ret
      exact ⟨rfl, HB2.out⟩
    · have HBA := Lib.hid (fun W (hz : Below V.heap.size V W) => built_any g ao ro cap rc h1 s1 r W (HCS.out.1.go hz) (HCS.out.2.go hz) (fun k => by have := HG.out k; omega) (by omega) (by omega))
      have HZ := Lib.hid (fun k : buildB g h1 s1 r = 0 => build_right k)
      generalize buildB g h1 s1 r = k1 at *
      by_cases e1 : k1 = 0
      · subst e1
        have hgz := HZ.out rfl
        have hn := HG.out hgz
        have hgn := right_n hgz
        obtain ⟨n, hnn⟩ : ∃ n : Nat, g.n = (n : Int) := ⟨g.n.toNat, by omega⟩
        obtain ⟨gn, es⟩ := g
        simp only at hnn hn hes
        subst hnn
        have hn12 : n ≤ 12 := by omega
        have hes40 : es.length ≤ 40 := by omega
        have HFR := Lib.hid (fun (u : Nat) (hu : u < n) W (hz : Below V.heap.size V W) => refFar_any n u es ao cap back W hgz hn12 hes40 hu (HCS.out.1.go hz))
        have HPE := Lib.hid (fun (u v : Nat) (hu : u < n) (hv : v < n) R S po (hok : HierOK es n R S po) ra rc d hd W (hz : Below V.heap.size V W) hR => refPeak_any n u v es R S po ao ra cap rc back d W hgz hok hn12 hes40 hu hv hd (HCS.out.1.go hz) hR)
        have HGZ := Lib.hid hgz
        clear hgz HZ
        go_enter Tryz.func6, Tryz.ntmps6
        go_upto_region 1 with (fail)
        rw [← HV.out]
        go_upto_region 3 with (go_at_call 14; refine HLI.out.mono ?_; rintro e w1 ⟨rfl, hb1⟩; (have HB1 := Lib.hid hb1); (obtain ⟨x0, x1, x2, x3, x4⟩ := HQ.out.go hb1); clear hb1)
        go_upto_region 4 with (go_at_call 16; refine (HBA.out _ HB1.out).mono ?_; rintro e w2 hp2; (obtain ⟨hb, R, S, po, rfl, hbh, hb2⟩ := hp2.good rfl HGZ.out hn); (have HH := Lib.hid (show BH w2 hb n es R S po from hbh)); (have HB2 := Lib.hid (HB1.out.st hb2)); (have z0 := cell_later hb2 x0); (have z1 := cell_later hb2 x1); clear hb2 hp2 hbh)
        clear x0 x1 x2 x3 x4 p0 p1 p2 p3 p4
        by_cases hs : s < 0 ∨ (n : Int) ≤ s
        · have HSO := Lib.hid (exact_off hb n es R S _ _ s back w2 HH.out.mem HH.out.pos hs)
          rcases hs with hs | hs
          · go_wp2_with (first
              | (go_at_call 33; refine HSO.out.mono ?_; rintro e w3 ⟨rfl, hb3⟩; (have HB3 := Lib.hid (HB2.out.st hb3)); clear hb3)
              | (go_at_call 28; refine (HAL.out _).mono ?_; rintro e w4 ⟨rfl, hb4⟩; (have HB4 := Lib.hid (HB3.out.st hb4)); clear hb4))
            go_ret
            exact ⟨rfl, HB.out.st HB4.out⟩
          · have hs0 : ¬ s < 0 := by omega
            go_wp2_with (first
              | (go_at_call 33; refine HSO.out.mono ?_; rintro e w3 ⟨rfl, hb3⟩; (have HB3 := Lib.hid (HB2.out.st hb3)); (have c0 := cell_later hb3 z0); clear hb3)
              | (go_at_call 28; refine (HAL.out _).mono ?_; rintro e w4 ⟨rfl, hb4⟩; (have HB4 := Lib.hid (HB3.out.st hb4)); clear hb4))
            go_ret
            exact ⟨rfl, HB.out.st HB4.out⟩
        · obtain ⟨u, rfl⟩ : ∃ u : Nat, s = u := ⟨s.toNat, by omega⟩
          have hu : u < n := by omega
          have HSA := Lib.hid (exact_any hb n es R S po back u w2 HH.out.mem HH.out.ok HH.out.le hu)
          unfold ExactPost at HSA
          have hs0 : (0 : Int) ≤ (u : Int) := by omega
          have hs1 : (u : Int) < (n : Int) := by omega
          clear hs
          go_upto_region 9 with (go_at_call 33; refine HSA.out.mono ?_; rintro e w3 ⟨la, lc, l, rfl, k1, k2, k3, k4, k5, k6⟩; (have HC3 := Lib.hid k1); (have HB3 := Lib.hid (HB2.out.st k2)); (have HX3 := Lib.hid k3); (have HW3 := Lib.hid k4); (have HL3 := Lib.hid (And.intro k5 k6)); (have HH3 := Lib.hid (HH.out.go k2)); (have c0 := cell_later k2 z0); (have c1 := cell_later k2 z1); clear k1 k2 k3 k4 k5 k6)
          have HHI := Lib.hid (fun W (hz : Below w3.heap.size w3 W) => hierarchy_any hb n es R S _ _ W (HH3.out.go hz).mem (by omega))
          have HRL := Lib.hid HH.out.ok.len
          unfold CHPost at HHI
          go_upto_region 10 with (go_at_call 21; refine (HHI.out _ (Below.refl _ _)).mono ?_; rintro e w4 ⟨a1, q1, b1, q2, rfl, k1, k2, hb4, kf1, kf2⟩; (have HR4 := Lib.hid k1); (have HX4 := Lib.hid k2); (have HB4 := Lib.hid hb4); clear k1 k2 hb4 kf1 kf2)
          obtain ⟨W5, hW5⟩ : ∃ W5, W5 = w4.alloc (Obj.cells #[.slice a1 R.length q1, .slice b1 S.length q2] 45) := ⟨_, rfl⟩
          rw [← hW5]
          have hb45 : Below w4.heap.size w4 W5 := by rw [hW5]; exact Below.of_al _ _
          have i0 : W5.cell? ⟨w4.heap.size, 0, none⟩ = some (.slice a1 R.length q1) := by rw [hW5]; go_simp
          have i1 : W5.cell? ⟨w4.heap.size, 1, none⟩ = some (.slice b1 S.length q2) := by rw [hW5]; go_simp
          have hb35 := HB4.out.st hb45
          have j0 := cell_later hb35 c0
          have j1 := cell_later hb35 c1
          have HC5 := Lib.hid (HC3.out.go hb35)
          have HR5 := Lib.hid (HR4.out.go hb45)
          have HS5 := Lib.hid (HX4.out.go hb45)
          have HB5 := Lib.hid (HB3.out.st hb35)
          have hlb : ((R.length : Int) != (n : Int)) = false := by have := HRL.out; simp; omega
          have HF2 := Lib.hid (HFR.out u hu)
          unfold AllPost at HF2
          clear hW5 hb45 hb35 c0 c1 z0 z1 HHI HR4 HX4 HB4 HC3
          go_upto_region 13 with (go_at_call 20; refine (HF2.out _ HB5.out).mono ?_; rintro e w7 ⟨fb, dd, rfl, k1, k2, k3, k4⟩; (have HD7 := Lib.hid k1); (have HB7 := Lib.hid k2); (have HAI := Lib.hid k4); (have o0 := cell_later k2 j0); (have o1 := cell_later k2 j1); (have o2 := cell_later k2 i0); (have o3 := cell_later k2 i1); clear k1 k2 k3 k4)
          have HC7 := Lib.hid (HC5.out.go HB7.out)
          have HR7 := Lib.hid (HR5.out.go HB7.out)
          have HS7 := Lib.hid (HS5.out.go HB7.out)
          have HBV7 := Lib.hid (HB5.out.st HB7.out)
          have hpos := (HH.out.ok.hierB back).pos
          have hnode := (HH.out.ok.hierB back).node
          have hfar : ∀ v, nodeN n v → FarV (relB back (arcG es)) (u : Int) v (gD dd v) := fun v hv => HAI.out.far hpos hv
          obtain ⟨pk, hpk⟩ : ∃ pk : Nat → Bool, ∀ v, pk v = true ↔ Peak (relB back (arcG es)) (rk po) (u : Int) (v : Int) (gD dd (v : Int)) := by
            refine ⟨fun v => @decide (Peak (relB back (arcG es)) (rk po) (u : Int) (v : Int) (gD dd (v : Int))) (Classical.propDecidable _), fun v => ?_⟩
            simp
          have HPS := Lib.hid (peaks_are hnode (s := (u : Int)) ⟨by omega, by omega⟩ hfar (fun v _ => hpk v) HX3.out)
          have HPU := Lib.hid (show pk u = true from (hpk u).2 (by
            have h0 : gD dd (u : Int) = 0 := by
              rcases hfar (u : Int) ⟨by omega, by omega⟩ with ⟨k, _⟩ | ⟨_, k⟩
              · exact k.uniq (.self hpos _)
              · exact absurd (Dist.self hpos (u : Int)).1 (k _)
            rw [h0]
            exact Peak.self hpos _ _))
          have HPK := Lib.hid (fun (v : Nat) (hv : v < n) W (hz : Below w7.heap.size w7 W) => (HPE.out u v hu hv R S po HH.out.ok a1 q1 _ (hfar (v : Int) ⟨by omega, by omega⟩) W (HBV7.out.st hz) (HR7.out.go hz)).mono (R' := fun e w' => e = .returned (.bool (pk v)) ∧ Below W.heap.size W w') (by
                rintro e w' ⟨b, rfl, hb1, hb2⟩
                exact ⟨by rw [show b = pk v from Bool.eq_iff_iff.2 (hb1.trans (hpk v).symm)], hb2⟩))
          rw [HRL.out] at o2 HPK
          have HDB := Lib.hid (fun (v : Nat) (hv : v < n) => (hfar (v : Int) ⟨by omega, by omega⟩).in)
          have hdl := HAI.out.1
          have HDL := Lib.hid hdl
          clear i0 i1 j0 j1 HF2 HC5 HR5 HS5 hpos hnode hfar hdl hlb hpk
          go_upto_region 14 with (at_make; go_must ((with_reducible refine wpList_mk w7.heap.size 34 _ 1 8 elem_u64 Tryz.underlying41 n ?_ ?_ ?_ ?_ ?_ ?_ ?_ ?_); rotate_left 4; (· rfl); (· rfl); (· exact ⟨by simp, by simp, by omega, by omega, by simp⟩); intro wm hown hbl hszm; (have Hmo := Lib.hid hown; have Hmb := Lib.hid hbl; clear hown hbl)))
          have HOZ := Lib.hid (show (madeCells (Value.int .u64 0).cells (n * 1)).toList = (ownL pk dd n 0).map encW by
            show (madeCells #[Value.int .u64 0] (n * 1)).toList = _
            rw [Nat.mul_one, toList_madeCells_one, ownL_zero, List.map_replicate])
          have HO0 := Lib.hid (by have h9 := Hmo.out; rw [HOZ.out] at h9; exact h9 : wm.ownsRow w7.heap.size 34 1 (.slice (some ⟨w7.heap.size, 0, none⟩) n n) n ((ownL pk dd n 0).map encW))
          clear Hmo HOZ
          go_wp2
          go_loopg [16, 17] n (fun gg v16 v17 wr => ∃ k : Nat, k ≤ n ∧ n - k ≤ gg ∧ v17 = .int .i64 k ∧ v16 = .int .i64 (cntL pk k : Nat) ∧ Aside (wr.ownsRow w7.heap.size 34 1 (.slice (some ⟨w7.heap.size, 0, none⟩) n n) n ((ownL pk dd n k).map encW)) ∧ Aside (Below w7.heap.size w7 wr))
          case atStart => exact ⟨0, Nat.zero_le _, by omega, rfl, rfl, HO0.out, Hmb.out⟩
          case round =>
            clear HO0 Hmb
            obtain ⟨k, hk, hgg, rfl, rfl, HO, HBr⟩ := hrel
            have r0 := cell_later HBr.out o0
            by_cases hlt : k < n
            · have hlt3 : (k : Int) < (n : Int) := by omega
              have hk0 : (0 : Int) ≤ (k : Int) := by omega
              have hcl := cntL_le pk k
              have hcl2 : ((cntL pk k : Nat) : Int) ≤ 12 := by omega
              have HCS1 := Lib.hid (cntL_succ pk k)
              have HST := Lib.hid (ownL_set (pk := pk) (dd := dd) hlt)
              have HOL := Lib.hid (ownL_len pk dd n k)
              obtain ⟨c9, hc9⟩ : ∃ c9, wr.cell? ⟨w7.heap.size, k, none⟩ = some c9 := by
                rw [HO.out.cellAt k (by omega), List.getElem?_map, List.getElem?_eq_getElem (by rw [HOL.out]; exact hlt)]
                exact ⟨_, rfl⟩
              have zf := HO.out.frozenAt k
              have dk := row_at HD7.out HDL.out hlt
              have HPK3 := Lib.hid (HPK.out k hlt)
              generalize gD dd (k : Int) = d at *
              generalize ownL pk dd n k = ol at *
              generalize cntL pk k = cn at *
              go_upto_region 19 with (fail)
              obtain ⟨W8, hW8⟩ : ∃ W8, W8 = wr.setCell ⟨w7.heap.size, k, none⟩ (.int .u64 4611686018427387904) := ⟨_, rfl⟩
              rw [← hW8]
              have HO8 := Lib.hid (show W8.ownsRow w7.heap.size 34 1 (.slice (some ⟨w7.heap.size, 0, none⟩) n n) n ((ol.set k FAR).map encW) by
                have h9 := (HO.out.stored k (.int .u64 4611686018427387904)).1
                rw [List.map_set, hW8]
                exact h9)
              have hb8 : Below w7.heap.size w7 W8 := by rw [hW8]; exact HBr.out.setCell (Nat.le_refl _) _
              have v0 := cell_later hb8 o0
              have v1 := cell_later hb8 o1
              have v2 := cell_later hb8 o2
              have v3 := cell_later hb8 dk
              have f0 := fun p => cell_ext p v0
              have f1 := fun p => cell_ext p v1
              have f2 := fun p => cell_ext p v2
              have f3 := fun p => cell_ext p v3
              have HPK5 := Lib.hid (fun p => HPK3.out (ext W8 p) (hb8.st (below_ext W8 p)))
              have HB8 := Lib.hid hb8
              clear hW8 hb8 HPK3 HO hc9 zf r0
              by_cases hku : k = u
              · have hkb : ((k : Int) == (u : Int)) = true := by simp; omega
                have hpk1 : pk k = true := by rw [hku]; exact HPU.out
                rw [hpk1] at HST HCS1 HPK5
                clear hku
                refine wp_region_ext (by kernel_rfl) (by kernel_rfl) ?_
                repeat (go_big_quiet_step (fail))
                refine wpQuiet_nil ?_
                rintro _ ⟨pc, rfl⟩
                have HBc := Lib.hid (below_ext W8 pc)
                generalize ext W8 pc = wc at HBc ⊢
                simp only [if_true] at HST HCS1
                have q3 := cell_later HBc.out v3
                have HO9 := Lib.hid (hp_owns_go HO8.out HBc.out)
                obtain ⟨c9, hc9⟩ : ∃ c9, wc.cell? ⟨w7.heap.size, k, none⟩ = some c9 := by
                  rw [HO9.out.cellAt k (by omega), List.getElem?_map, List.getElem?_eq_getElem (by rw [List.length_set, HOL.out]; exact hlt)]
                  exact ⟨_, rfl⟩
                have zf := HO9.out.frozenAt k
                have HO10 := Lib.hid (show (wc.setCell ⟨w7.heap.size, k, none⟩ (.int .u64 d)).ownsRow w7.heap.size 34 1 (.slice (some ⟨w7.heap.size, 0, none⟩) n n) n ((ownL pk dd n (k + 1)).map encW) by
                  have h9 := (HO9.out.stored k (.int .u64 d)).1
                  rw [← HST.out]
                  rw [List.map_set, List.set_set, ← List.map_set] at h9
                  exact h9)
                have HB10 := Lib.hid (show Below w7.heap.size w7 (wc.setCell ⟨w7.heap.size, k, none⟩ (.int .u64 d)) from (HB8.out.st HBc.out).setCell (Nat.le_refl _) _)
                clear HO9 HO8 f0 f1 f2 f3 v0 v1 v2 v3
                go_wp2
                go_roundg (n - (k + 1))
                case measure => omega
                case rel => exact ⟨k + 1, by omega, Nat.le_refl _, by go_num, by rw [HCS1.out]; go_num, HO10.out, HB10.out⟩
              · have hkb : ((k : Int) == (u : Int)) = false := by rw [beq_eq_false_iff_ne]; omega
                clear hku
                cases hpk1 : pk k with
                | true =>
                  rw [hpk1] at HST HCS1 HPK5
                  refine wp_region_ext (by kernel_rfl) (by kernel_rfl) ?_
                  repeat (go_big_quiet_step ((go_at_call 32; exact Calls.ext_of (HPK5.out _))))
                  refine wpQuiet_nil ?_
                  rintro _ ⟨pc, rfl⟩
                  have HBc := Lib.hid (below_ext W8 pc)
                  generalize ext W8 pc = wc at HBc ⊢
                  simp only [if_true] at HST HCS1
                  have q3 := cell_later HBc.out v3
                  have HO9 := Lib.hid (hp_owns_go HO8.out HBc.out)
                  obtain ⟨c9, hc9⟩ : ∃ c9, wc.cell? ⟨w7.heap.size, k, none⟩ = some c9 := by
                    rw [HO9.out.cellAt k (by omega), List.getElem?_map, List.getElem?_eq_getElem (by rw [List.length_set, HOL.out]; exact hlt)]
                    exact ⟨_, rfl⟩
                  have zf := HO9.out.frozenAt k
                  have HO10 := Lib.hid (show (wc.setCell ⟨w7.heap.size, k, none⟩ (.int .u64 d)).ownsRow w7.heap.size 34 1 (.slice (some ⟨w7.heap.size, 0, none⟩) n n) n ((ownL pk dd n (k + 1)).map encW) by
                    have h9 := (HO9.out.stored k (.int .u64 d)).1
                    rw [← HST.out]
                    rw [List.map_set, List.set_set, ← List.map_set] at h9
                    exact h9)
                  have HB10 := Lib.hid (show Below w7.heap.size w7 (wc.setCell ⟨w7.heap.size, k, none⟩ (.int .u64 d)) from (HB8.out.st HBc.out).setCell (Nat.le_refl _) _)
                  clear HO9 HO8 f0 f1 f2 f3 v0 v1 v2 v3
                  go_wp2
                  go_roundg (n - (k + 1))
                  case measure => omega
                  case rel => exact ⟨k + 1, by omega, Nat.le_refl _, by go_num, by rw [HCS1.out]; go_num, HO10.out, HB10.out⟩
                | false =>
                  rw [hpk1] at HST HCS1 HPK5
                  simp only [Bool.false_eq_true, if_false, Nat.add_zero] at HST HCS1
                  refine wp_region_ext (by kernel_rfl) (by kernel_rfl) ?_
                  repeat (go_big_quiet_step ((go_at_call 32; exact Calls.ext_of (HPK5.out _))))
                  refine wpQuiet_nil ?_
                  rintro _ ⟨pc, rfl⟩
                  have HBc := Lib.hid (below_ext W8 pc)
                  generalize ext W8 pc = wc at HBc ⊢
                  go_wp2
                  go_roundg (n - (k + 1))
                  case measure => omega
                  case rel => exact ⟨k + 1, by omega, Nat.le_refl _, by go_num, by rw [HCS1.out], by rw [← HST.out]; exact hp_owns_go HO8.out HBc.out, HB8.out.st HBc.out⟩
            · obtain rfl : k = n := by omega
              obtain ⟨hlen, hlab, hown⟩ := HPS.out
              have HLB := Lib.hid hlab
              have HOW := Lib.hid hown
              obtain ⟨ao9, cap9, e9, hce⟩ := Cel.of_owns HO.out
              cases e9
              have HCO := Lib.hid hce
              have hlc : ((l.length : Int) != ((cntL pk k : Nat) : Int)) = false := by simp; omega
              have HC8 := Lib.hid (HC7.out.go HBr.out)
              have HR8 := Lib.hid (HR7.out.go HBr.out)
              have HS8 := Lib.hid (HS7.out.go HBr.out)
              have p0 := r0
              have p2 := cell_later HBr.out o2
              have p3 := cell_later HBr.out o3
              have HBW := Lib.hid (HBV7.out.st HBr.out)
              have hl12 : (l.length : Int) ≤ 12 := by have := HL3.out.1; omega
              have hll := HL3.out.1
              clear hce hlab hown HO r0 o0 o1 o2 o3 hlen HC7 HR7 HS7 HD7 HPK HAI
              obtain ⟨wl, rfl⟩ : ∃ wl, wl = wr := ⟨_, rfl⟩
              obtain ⟨own, hown9⟩ : ∃ own, own = ownL pk dd k k := ⟨_, rfl⟩
              have HGO := Lib.hid (fun (v : Nat) (hv : v < k) => show gD own (v : Int) = if pk v then gD dd (v : Int) else FAR by rw [hown9]; exact ownL_get hv)
              have HOL := Lib.hid (show own.length = k by rw [hown9]; exact ownL_len _ _ _ _)
              rw [← hown9] at HCO HOW
              have HOB := Lib.hid (show ∀ v, nodeN k v → 0 ≤ gD own v ∧ gD own v ≤ 4611686018427387904 from fun v hv => by
                obtain ⟨x, rfl⟩ : ∃ x : Nat, v = (x : Int) := ⟨v.toNat, by have := hv.1; omega⟩
                have hx : x < k := by have := hv.2; omega
                rw [HGO.out x hx]
                split
                · exact HDB.out x hx
                · unfold FAR; omega)
              have HBY := Lib.hid (fun (v : Nat) (hv : v < k) W (hz : Below wl.heap.size wl W) => refBy_any k R S own v back a1 b1 q1 q2 w7.heap.size W (HR8.out.go hz) (HS8.out.go hz) (HCO.out.go hz) HRL.out HOL.out (by omega) hv HH.out.mem.small.2.1 (fun x hx => by
                have k1 := HH.out.ok.ends x hx
                have k2 := HH.out.ok.big x hx
                have k3 := big12 hn12
                exact ⟨k1.1, k1.2.1, by omega, by omega⟩) HOB.out)
              have HLK := Lib.hid (show ∀ a ∈ l, ∃ v : Nat, v < k ∧ a.v = (v : Int) ∧ gD own (v : Int) = a.d ∧ a.d < FAR ∧ firstS R S (ownF own) back (v : Int) (gD own (v : Int)) = a.b from fun a ha => by
                obtain ⟨v, k1, k2, k3, k4, k5⟩ := HLB.out a ha
                have k6 : gD own (v : Int) = a.d := by rw [HGO.out v k1, k3, if_pos rfl, k4]
                refine ⟨v, k1, k2, k6, k5, ?_⟩
                rw [HW3.out a ha, ← k2, k2, k6]
                refine firstS_cong fun x hx => ?_
                have k7 := HH.out.ok.ends x hx
                have k8 : ∃ y : Nat, y < k ∧ (if back then x.t else x.f) = (y : Int) := by
                  cases back
                  · exact ⟨x.f.toNat, by have := k7.1.1; have := k7.1.2; omega, by have := k7.1.1; simp; omega⟩
                  · exact ⟨x.t.toNat, by have := k7.2.1.1; have := k7.2.1.2; omega, by have := k7.2.1.1; simp; omega⟩
                obtain ⟨y, y1, y2⟩ := k8
                rw [y2]
                exact HOW.out y y1)
              have HRT := Lib.hid (show ∀ a ∈ l, a.v = (u : Int) → a.b = -1 from fun a ha e => by
                obtain ⟨v, k1, k2, k3, k4, k5⟩ := HLB.out a ha
                have h0 : a.d = 0 := by
                  have hp := (HX3.out.2 a.v a.d).1 ⟨a, ha, rfl, rfl⟩
                  rw [e] at hp
                  exact hp.2.1.uniq (.self (HH.out.ok.hierB back).pos _)
                rw [HW3.out a ha, h0]
                exact first_zero (fun x hx => (HH.out.ok.ends x hx).2.2.2) (fun w e he => by
                  obtain ⟨x, hx, _, rfl⟩ := (labF_spec HX3.out.once w e).1 he
                  exact (HL3.out.2 x hx).2.1))
              have hsrt := HX3.out.1
              have HSR := Lib.hid (fun (i j : Nat) (hi : i < l.length) (hj : j < l.length) (hij : i < j) => List.pairwise_iff_getElem.1 hsrt i j hi hj hij)
              rw [HRL.out] at HBY
              clear hown9 hsrt HLB HOW HGO HPS HX3 HW3 HR8 HS8
              go_wp2
              go_loopg [18] l.length (fun gg v18 wr => ∃ i : Nat, i ≤ l.length ∧ l.length - i ≤ gg ∧ v18 = .int .i64 i ∧ Aside (Below wl.heap.size wl wr))
              case atStart => exact ⟨0, Nat.zero_le _, by omega, rfl, Below.refl _ _⟩
              case round =>
                obtain ⟨i, hi, hgg2, rfl, HBi⟩ := hrel
                by_cases hlt2 : i < l.length
                · have hlt4 : (i : Int) < (l.length : Int) := by omega
                  have hi0 : (0 : Int) ≤ (i : Int) := by omega
                  obtain ⟨lb, lo, rfl, y0, y1, y2⟩ := (HC8.out.go HBi.out).lab hlt2
                  obtain ⟨v, hv, hav, hgv, hFv, hfs⟩ := HLK.out l[i] (List.getElem_mem hlt2)
                  have hrt := HRT.out l[i] (List.getElem_mem hlt2)
                  have HPC := Lib.hid (show ∀ j, i = j + 1 → ∃ x, wr.cell? ⟨lb, lo + j * 3, none⟩ = some (.int .i64 x) ∧ x < l[i].v from fun j hj => by
                    obtain ⟨lb', lo', e, z0, -, -⟩ := (HC8.out.go HBi.out).lab (show j < l.length by omega)
                    cases e
                    exact ⟨_, z0, HSR.out j i (by omega) hlt2 (by omega)⟩)
                  have hprev : i = 0 ∨ ∃ j, i = j + 1 := by cases i with
                    | zero => exact .inl rfl
                    | succ j => exact .inr ⟨j, rfl⟩
                  have HBV := Lib.hid (HBY.out v hv)
                  rw [hfs] at HBV
                  have cown := row_at HCO.out HOL.out hv
                  rw [hgv] at cown
                  generalize hx : l[i] = a at *
                  clear hx
                  obtain ⟨av, ad, ab⟩ := a
                  simp only at y0 y1 y2 hav hgv hFv hrt HPC cown HBV
                  subst hav
                  have hFv2 : ¬ 4611686018427387904 ≤ ad := by unfold FAR at hFv; omega
                  have HFv := Lib.hid hFv2
                  have HRB := Lib.hid hrt
                  clear hfs hgv hFv hrt
                  go_upto_region 28 with (fail)
                  obtain ⟨W9, hW9⟩ : ∃ W9, W9 = wr.alloc (Obj.cells #[.int .i64 (v : Int), .int .u64 ad, .int .i64 ab] 64) := ⟨_, rfl⟩
                  rw [← hW9]
                  have hb9 : Below wr.heap.size wr W9 := by rw [hW9]; exact Below.of_al _ _
                  have a0 : W9.cell? ⟨wr.heap.size, 0, none⟩ = some (.int .i64 (v : Int)) := by rw [hW9]; go_simp
                  have a1' : W9.cell? ⟨wr.heap.size, 1, none⟩ = some (.int .u64 ad) := by rw [hW9]; go_simp
                  have a2 : W9.cell? ⟨wr.heap.size, 2, none⟩ = some (.int .i64 ab) := by rw [hW9]; go_simp
                  have hbl := HBi.out.st hb9
                  have v0 := cell_later hbl p0
                  have v2 := cell_later hbl p2
                  have v3 := cell_later hbl p3
                  have vo := cell_later hbl cown
                  have f0 := fun p => cell_ext p a0
                  have f1 := fun p => cell_ext p a1'
                  have f2 := fun p => cell_ext p v0
                  have f3 := fun p => cell_ext p vo
                  have HBL := Lib.hid hbl
                  have HB9 := Lib.hid hb9
                  have hv1 : ¬ (k : Int) ≤ (v : Int) := by omega
                  have hv0 : ¬ (v : Int) < 0 := by omega
                  have hv3 : (v : Int) < (k : Int) := by omega
                  have hdd : (ad != ad) = false := by simp
                  have hFv2 : decide (4611686018427387904 ≤ ad) = false := decide_eq_false (by have := HFv.out; omega)
                  clear y0 y1 y2 hW9 hb9 hbl cown
                  rcases hprev with rfl | ⟨j, rfl⟩
                  · have hz0 : ¬ (0 : Int) < ((0 : Nat) : Int) := by omega
                    refine wp_region_ext (by kernel_rfl) (by kernel_rfl) ?_
                    repeat (go_big_quiet_step (fail))
                    refine wpQuiet_nil ?_
                    rintro _ ⟨pa, rfl⟩
                    have HBa := Lib.hid (below_ext W9 pa)
                    generalize ext W9 pa = wa at HBa ⊢
                    have j0 := cell_later HBa.out a0
                    have j2 := cell_later HBa.out a2
                    have j3 := cell_later HBa.out v2
                    have j4 := cell_later HBa.out v3
                    have HBx := Lib.hid (HBL.out.st HBa.out)
                    clear f0 f1 f2 f3 a0 a1' a2 v0 v2 v3 vo HBL
                    go_upto_region 30 with (fail)
                    have g0 := fun p => cell_ext p j0
                    have g2 := fun p => cell_ext p j2
                    have g3 := fun p => cell_ext p j3
                    have g4 := fun p => cell_ext p j4
                    by_cases hvu : v = u
                    · have hve : ((v : Int) == (u : Int)) = true := by simp; omega
                      have hvn : ((v : Int) != (u : Int)) = false := by simp; omega
                      have hab := HRB.out (by omega)
                      subst hab
                      clear hvu
                      refine wp_region_ext (by kernel_rfl) (by kernel_rfl) ?_
                      repeat (go_big_quiet_step (fail))
                      refine wpQuiet_nil ?_
                      rintro _ ⟨pc, rfl⟩
                      have HBc := Lib.hid (below_ext wa pc)
                      generalize ext wa pc = wc at HBc ⊢
                      go_wp2
                      go_roundg (l.length - (0 + 1))
                      case measure => omega
                      case rel => exact ⟨0 + 1, by omega, Nat.le_refl _, by go_num, HBx.out.st HBc.out⟩
                    · have hve : ((v : Int) == (u : Int)) = false := by rw [beq_eq_false_iff_ne]; omega
                      have hvn : ((v : Int) != (u : Int)) = true := by simp; omega
                      have hbb : (ab != ab) = false := by simp
                      have HBV2 := Lib.hid (fun p => HBV.out (ext wa p) (HBx.out.st (below_ext wa p)))
                      clear hvu
                      refine wp_region_ext (by kernel_rfl) (by kernel_rfl) ?_
                      repeat (go_big_quiet_step ((go_at_call 34; exact Calls.ext_of (HBV2.out _))))
                      refine wpQuiet_nil ?_
                      rintro _ ⟨pc, rfl⟩
                      have HBc := Lib.hid (below_ext wa pc)
                      generalize ext wa pc = wc at HBc ⊢
                      go_wp2
                      go_roundg (l.length - (0 + 1))
                      case measure => omega
                      case rel => exact ⟨0 + 1, by omega, Nat.le_refl _, by go_num, HBx.out.st HBc.out⟩
                  · obtain ⟨x, z0, zx⟩ := HPC.out j rfl
                    have z5 := cell_later HB9.out z0
                    have f9 := fun p => cell_ext p z5
                    have hv2 : decide ((v : Int) ≤ x) = false := decide_eq_false (by omega)
                    have hz1 : (0 : Int) < ((j + 1 : Nat) : Int) := by omega
                    have hz2 : ((j + 1 : Nat) : Int) - 1 = (j : Int) := by omega
                    have hz3 : (j : Int) < (l.length : Int) := by omega
                    refine wp_region_ext (by kernel_rfl) (by kernel_rfl) ?_
                    repeat (go_big_quiet_step (fail))
                    refine wpQuiet_nil ?_
                    rintro _ ⟨pa, rfl⟩
                    have HBa := Lib.hid (below_ext W9 pa)
                    generalize ext W9 pa = wa at HBa ⊢
                    clear f9 z0 z5
                    have j0 := cell_later HBa.out a0
                    have j2 := cell_later HBa.out a2
                    have j3 := cell_later HBa.out v2
                    have j4 := cell_later HBa.out v3
                    have HBx := Lib.hid (HBL.out.st HBa.out)
                    clear f0 f1 f2 f3 a0 a1' a2 v0 v2 v3 vo HBL
                    go_upto_region 30 with (fail)
                    have g0 := fun p => cell_ext p j0
                    have g2 := fun p => cell_ext p j2
                    have g3 := fun p => cell_ext p j3
                    have g4 := fun p => cell_ext p j4
                    by_cases hvu : v = u
                    · have hve : ((v : Int) == (u : Int)) = true := by simp; omega
                      have hvn : ((v : Int) != (u : Int)) = false := by simp; omega
                      have hab := HRB.out (by omega)
                      subst hab
                      clear hvu
                      refine wp_region_ext (by kernel_rfl) (by kernel_rfl) ?_
                      repeat (go_big_quiet_step (fail))
                      refine wpQuiet_nil ?_
                      rintro _ ⟨pc, rfl⟩
                      have HBc := Lib.hid (below_ext wa pc)
                      generalize ext wa pc = wc at HBc ⊢
                      go_wp2
                      go_roundg (l.length - ((j + 1) + 1))
                      case measure => omega
                      case rel => exact ⟨(j + 1) + 1, by omega, Nat.le_refl _, by go_num, HBx.out.st HBc.out⟩
                    · have hve : ((v : Int) == (u : Int)) = false := by rw [beq_eq_false_iff_ne]; omega
                      have hvn : ((v : Int) != (u : Int)) = true := by simp; omega
                      have hbb : (ab != ab) = false := by simp
                      have HBV2 := Lib.hid (fun p => HBV.out (ext wa p) (HBx.out.st (below_ext wa p)))
                      clear hvu
                      refine wp_region_ext (by kernel_rfl) (by kernel_rfl) ?_
                      repeat (go_big_quiet_step ((go_at_call 34; exact Calls.ext_of (HBV2.out _))))
                      refine wpQuiet_nil ?_
                      rintro _ ⟨pc, rfl⟩
                      have HBc := Lib.hid (below_ext wa pc)
                      generalize ext wa pc = wc at HBc ⊢
                      go_wp2
                      go_roundg (l.length - ((j + 1) + 1))
                      case measure => omega
                      case rel => exact ⟨(j + 1) + 1, by omega, Nat.le_refl _, by go_num, HBx.out.st HBc.out⟩
                · obtain rfl : i = l.length := by omega
                  go_wp2_with (go_at_call 28; refine (HAL.out _).mono ?_; rintro e w9 ⟨rfl, hb9⟩; (have HB9 := Lib.hid (HBi.out.st hb9)); clear hb9)
                  go_ret
                  exact ⟨rfl, HB.out.st (HBW.out.st HB9.out)⟩
      · have HE := Lib.hid e1
        have hk1 : (k1 != 0) = true := by simpa using e1
        clear e1
        go_enter Tryz.func6, Tryz.ntmps6
        go_upto_region 1 with (fail)
        rw [← HV.out]
        go_wp2_with (first
          | (go_at_call 14; refine HLI.out.mono ?_; rintro e w1 ⟨rfl, hb1⟩; (have HB1 := Lib.hid hb1); (obtain ⟨x0, x1, x2, x3, x4⟩ := HQ.out.go hb1); clear hb1)
          | (go_at_call 16; refine (HBA.out _ HB1.out).mono ?_; rintro e w2 hp2; (obtain ⟨rfl, hb2⟩ := hp2.nil HE.out); (have HB2 := Lib.hid (HB1.out.st hb2)); clear hb2 hp2)
          | (go_at_call 28; refine (HAL.out _).mono ?_; rintro e w6 ⟨rfl, hb6⟩; (have HB6 := Lib.hid (HB2.out.st hb6)); clear hb6))
        go_ret
        exact ⟨rfl, HB.out.st HB6.out⟩
end Go.Proofs.YtkdomobedfhhgaaGreat
end

section
namespace Go.Proofs.YtkdomobedfhhgaaGreat.upwardPeaks
open Go.ChangeShapes Go.WideShapes Go.ChangeAt Go.RowKit Go.Joins
open Go.ChangeMaps (open_string shut_string)
set_option linter.unusedVariables false

theorem own : ownKnob Tryz.prog.godebug = none := by kernel_rfl
theorem laidOut : laidOutB Tryz.prog = true := by kernel_rfl

set_option maxRecDepth 100000 in
theorem lifted (os : Os) (started : os.Started) (H : Type) (enc : TypeId × Value → H) :
    ReturnsInHanded {} Tryz.checked os 6 .any (Rows.upwardPeaksSpec.pre6 enc Tryz.prog Tryz.f6 Rows.upwardPeaksRow.domain false) (Rows.upwardPeaksSpec.post enc Tryz.prog Tryz.f6 false true false false) := by
  refine returnsInHanded_of_change_sized (C := Tryz.checked) own started (by kernel_rfl) Tryz.func6
    (ChangeSpec.witness6 (enc := enc) (C := Tryz.checked) false ⟨#[], #[.agg #[.int .i64 0, .slice none 0 0], .agg #[.int .i64 0, .int .i64 0, .slice none 0 0], .int .i64 0, .bool false], []⟩ 8 (by kernel_rfl) (by kernel_rfl) (by kernel_rfl) (by kernel_rfl)) ?_
  intro W base args ds gs before hval0 hW _ hsz0 _
  have hsz : (DataW.weightsEach Tryz.prog (Tryz.f6.params.toList ++ Rows.upwardPeaksSpec.plain.varTypes Tryz.prog) (ds ++ gs)).all (· ≤ reachBytes) = true := hsz0
  clear hsz0
  have hval : ∀ (j : Nat) t v, Tryz.f6.params[j]? = some t → args[j]? = some v → Value.okWide Tryz.prog W .any base t v := hval0
  have hW' := hW
  obtain ⟨p, q, hA0, hV, rfl, hfz, hnd⟩ := hW
  have hA : DataW.TrodAll enc Tryz.prog W 0 (fun _ => true) true Tryz.f6.params.toList args.toList ds p := hA0
  rw [Tryz.params6] at hA hval hsz
  obtain ⟨v0, vs0, d0, ds0, p0, q0, hargs, rfl, rfl, h0, r0⟩ := trodAll_cons hA
  obtain ⟨v1, vs1, d1, ds1, p1, q1, rfl, rfl, rfl, h1, r1⟩ := trodAll_cons r0
  obtain ⟨v2, vs2, d2, ds2, p2, q2, rfl, rfl, rfl, h2, r2⟩ := trodAll_cons r1
  obtain ⟨v3, vs3, d3, ds3, p3, q3, rfl, rfl, rfl, h3, r3⟩ := trodAll_cons r2
  obtain ⟨rfl, rfl, rfl⟩ := trodAll_nil r3
  obtain rfl : args = #[v0, v1, v2, v3] := by cases args; simp_all
  obtain ⟨rfl, rfl⟩ := trodVars_none hV
  have k0 := h0
  have lt0 : ∀ x ∈ p0, x.block < W.heap.size := by obtain ⟨m, hm⟩ := k0; exact DataW.trod_lt m _ _ _ hm
  have k1 := h1
  have lt1 : ∀ x ∈ p1, x.block < W.heap.size := by obtain ⟨m, hm⟩ := k1; exact DataW.trod_lt m _ _ _ hm
  have k2 := h2
  have lt2 : ∀ x ∈ p2, x.block < W.heap.size := by obtain ⟨m, hm⟩ := k2; exact DataW.trod_lt m _ _ _ hm
  have k3 := h3
  have lt3 : ∀ x ∈ p3, x.block < W.heap.size := by obtain ⟨m, hm⟩ := k3; exact DataW.trod_lt m _ _ _ hm
  obtain ⟨x0, y0, rx0, ry0, fu0, rfl, rfl, rfl, hx0, hy0⟩ := open_agg2 Tryz.underlying24 (by kernel_rfl) (by kernel_rfl) (hval 0 24 v0 rfl rfl) h0
  obtain ⟨ng, he0, _, gg⟩ := DataW.trod_int Tryz.underlying3 hx0
  simp only [List.cons.injEq, and_true] at he0
  subst he0
  have bg := wf_i64 gg
  obtain ⟨aog, capg, g, rfl, cg, lg, fg⟩ := rd_edges Tryz.underlying22 Tryz.underlying119 Tryz.underlying3 Tryz.underlying34 (by kernel_rfl) (by kernel_rfl) (by kernel_rfl) hy0
  obtain ⟨x1, y1, z1, rx1, ry1, rz1, fu1, rfl, rfl, rfl, hx1, hy1, hz1⟩ := open_agg3 Tryz.underlying27 (by kernel_rfl) (by kernel_rfl) (hval 1 27 v1 rfl rfl) h1
  obtain ⟨ha, hex1, _, gha⟩ := DataW.trod_int Tryz.underlying3 hx1
  simp only [List.cons.injEq, and_true] at hex1
  subst hex1
  have bha := wf_i64 gha
  obtain ⟨sa, hey1, _, gsa⟩ := DataW.trod_int Tryz.underlying3 hy1
  simp only [List.cons.injEq, and_true] at hey1
  subst hey1
  have bsa := wf_i64 gsa
  obtain ⟨aoa, capa, a, rfl, ca, na, fa⟩ := rd_ints Tryz.underlying25 Tryz.underlying3 (by kernel_rfl) hz1
  obtain ⟨s, rfl, rfl, rfl, y2⟩ := open_int Tryz.underlying3 (hval 2 3 v2 rfl rfl) h2
  have bs := wf_i64 y2
  obtain ⟨b, rfl, rfl, rfl⟩ := open_bool Tryz.underlying4 (hval 3 4 v3 rfl rfl) h3
  clear hA0 hval0
  refine (UpwardPeaks_any ⟨ng, g⟩ aog capg ha sa aoa a capa s b W cg ca).mono fun e W' ⟨he, bel⟩ => ?_
  subst he
  exact ⟨_, rfl, _, _, _, [], _, [], hW', trodAll_mk1 (shut_bool Tryz.underlying4 _), (trodAll_cons_mk (Below.trod laidOut (by kernel_rfl) (of_decide_eq_true (by kernel_rfl)) k0 bel lt0) (trodAll_cons_mk (Below.trod laidOut (by kernel_rfl) (of_decide_eq_true (by kernel_rfl)) k1 bel lt1) (trodAll_cons_mk (Below.trod laidOut (by kernel_rfl) (of_decide_eq_true (by kernel_rfl)) k2 bel lt2) (trodAll_cons_mk (Below.trod laidOut (by kernel_rfl) (of_decide_eq_true (by kernel_rfl)) k3 bel lt3) trodAll_mk0)))), rfl, bel.frame _, fun h => by cases h⟩

theorem over : Rows.upwardPeaksRow.holds Tryz.pinned (OpenSpec.ofChange Rows.upwardPeaksSpec) :=
  OpenClaim.holds_of_wide 6 Tryz.f6 rfl rfl rfl rfl rfl rfl rfl ⟨rfl, rfl, rfl, rfl, rfl⟩ rfl rfl rfl rfl rfl (by kernel_rfl) Tryz.func6 (by kernel_rfl)
    (of_decide_eq_true (by kernel_rfl)) (by unfold Func.isWrapper; first | (rw [if_pos (by decide +kernel)]; kernel_rfl) | (rw [if_neg (by decide +kernel)]; exact ⟨rfl, rfl⟩))
    (fun os started H enc _ => lifted os started H enc)

end Go.Proofs.YtkdomobedfhhgaaGreat.upwardPeaks
namespace Go.Proofs.YtkdomobedfhhgaaGreat
/-- The statement. -/
theorem upwardPeaks_holds : Rows.UpwardPeaksSaid := upwardPeaks.over
#print axioms upwardPeaks_holds
end Go.Proofs.YtkdomobedfhhgaaGreat
end
