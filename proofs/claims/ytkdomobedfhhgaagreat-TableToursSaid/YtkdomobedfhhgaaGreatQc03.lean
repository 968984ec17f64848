/-
  Walk over the reference of upward: Far, Peak.
  Walk of the law QueryThirds.
  Walk of package hier: Hierarchy.
-/
import Derived.Test.YtkdomobedfhhgaaGreatProg
import Derived.Test.YtkdomobedfhhgaaGreatQc02
import Derived.Test.YtkdomobedfhhgaaGreatQb36
import Derived.Test.YtkdomobedfhhgaaGreatQb26
set_option linter.unusedVariables false
set_option linter.unusedSimpArgs false
set_option linter.unnecessarySimpa false
section
namespace Go.Proofs.YtkdomobedfhhgaaGreat
open Go Go.Proofs Go.RowKit Go.Shelf Go.Proofs.YtkdomobedfhhgaaGreat.Ch

theorem AllPost.st {es : List EdgeD} {n : Nat} {s : Int} {back : Bool} {no : List Int} {w W w' : World} {e : Ending} (hb : Below w.heap.size w W) (h : AllPost es n s back no W e w') : AllPost es n s back no w e w' := by
  obtain ⟨b, d, h1, h2, h3, h4, h5⟩ := h
  have := hb.size
  exact ⟨b, d, h1, h2, hb.st h3, by omega, h5⟩
set_option maxRecDepth 100000 in
set_option maxHeartbeats 1000000 in
theorem refFar_any (n s : Nat) (es : List EdgeD) (ao : Option Addr) (cap : Nat) (back : Bool) (w : World) (hg : rightG ⟨(n : Int), es⟩ = 0) (hn : n ≤ 12) (hes : es.length ≤ 40) (hs : s < n) (hc : Cel w ao (flat es)) :
    Calls Tryz.prog 20 #[.agg #[.int .i64 (n : Int), .slice ao es.length cap], .int .i64 (s : Int), .bool back] w (AllPost es n s back [] w) := by
  obtain ⟨W, hW⟩ : ∃ W, W = w.alloc (Obj.cells #[.int .i64 (n : Int), .slice ao es.length cap] 24) := ⟨_, rfl⟩
  have hbw : Below w.heap.size w W := by rw [hW]; exact Below.of_al _ _
  have c0 : W.cell? ⟨w.heap.size, 0, none⟩ = some (.int .i64 (n : Int)) := by rw [hW]; go_simp
  have c1 : W.cell? ⟨w.heap.size, 1, none⟩ = some (.slice ao es.length cap) := by rw [hW]; go_simp
  have HW := Lib.hid hW
  have HB := Lib.hid hbw
  have HA := Lib.hid (refAll_any n s es ao none cap 0 back [] W hg hn hes hs (by simp) (hc.go hbw) (Cel.nil _ _))
  obtain ⟨Q, hQ⟩ : ∃ Q : Ending → World → Prop, Q = AllPost es n s back [] W := ⟨_, rfl⟩
  have HQ := Lib.hid (fun e w' (h : Q e w') => AllPost.st hbw (show AllPost es n s back [] W e w' by rw [hQ] at h; exact h))
  rw [← hQ] at HA
  have HQV := Lib.hid (fun e w' (h : Q e w') => show ∃ b, e = .returned (.slice (some ⟨b, 0, none⟩) n n) by rw [hQ] at h; obtain ⟨b, _, h, _⟩ := h; exact ⟨b, h⟩)
  clear hW hbw hc hQ
  go_enter Tryz.func20, Tryz.ntmps20
  go_upto_region 1 with (fail)
  rw [← HW.out]
  go_wp2_with (go_at_call 74; refine HA.out.mono ?_; rintro e w1 hq; obtain ⟨b, rfl⟩ := HQV.out _ _ hq; (have HH := Lib.hid hq); clear hq)
  go_ret
  exact HQ.out _ _ HH.out

/-- which nodes are greater, of the first k -/
def noL (r : Int → Int) (v k : Nat) : List Int := ((List.range k).filter fun u => decide (u ≠ v ∧ r (v : Int) < r (u : Int))).map fun u : Nat => (u : Int)
theorem noL_yes {r : Int → Int} {v k : Nat} (h1 : k ≠ v) (h2 : r (v : Int) < r (k : Int)) : noL r v (k + 1) = noL r v k ++ [(k : Int)] := by
  unfold noL
  rw [List.range_succ, List.filter_append, List.map_append, List.filter_cons_of_pos (by simpa using ⟨h1, h2⟩)]
  rfl
theorem noL_no {r : Int → Int} {v k : Nat} (h : ¬ (k ≠ v ∧ r (v : Int) < r (k : Int))) : noL r v (k + 1) = noL r v k := by
  unfold noL
  rw [List.range_succ, List.filter_append, List.map_append, List.filter_cons_of_neg (by simpa using h)]
  simp
theorem noL_len (r : Int → Int) (v k : Nat) : (noL r v k).length ≤ k := by
  unfold noL
  rw [List.length_map]
  exact Nat.le_trans (List.length_filter_le _ _) (by simp)
theorem noL_mem {r : Int → Int} {n v : Nat} {u : Int} : u ∈ noL r v n ↔ noP n r v u := by
  unfold noL noP nodeN
  simp only [List.mem_map, List.mem_filter, List.mem_range, decide_eq_true_eq]
  constructor
  · rintro ⟨x, ⟨h1, h2, h3⟩, rfl⟩
    exact ⟨⟨by omega, by omega⟩, by omega, h3⟩
  · rintro ⟨⟨h1, h2⟩, h3, h4⟩
    refine ⟨u.toNat, ⟨by omega, by omega, ?_⟩, by omega⟩
    rw [Int.toNat_of_nonneg h1]
    exact h4
theorem cel_base {w : World} {ao : Option Addr} {l : List Int} (h : Cel w ao (l.map encI)) (h0 : 0 < l.length) : ∃ b o, ao = some ⟨b, o, none⟩ ∧ ∀ i (hi : i < l.length), w.cell? ⟨b, o + i, none⟩ = some (encI l[i]) := by
  obtain ⟨b, o, e, _⟩ := h.at h0
  refine ⟨b, o, e, fun i hi => ?_⟩
  obtain ⟨b', o', e', h1⟩ := h.at hi
  rw [e] at e'
  cases e'
  exact h1
def PeakPost (A : Int → Int → Int → Prop) (r : Int → Int) (s v d : Int) (w : World) (e : Ending) (w' : World) : Prop := ∃ b, e = .returned (.bool b) ∧ (b = true ↔ Peak A r s v d) ∧ Below w.heap.size w w'
theorem PeakPost.no {A : Int → Int → Int → Prop} {r : Int → Int} {s v d : Int} {w w' : World} (h : ¬ Peak A r s v d) (hb : Below w.heap.size w w') : PeakPost A r s v d w (.returned (.bool false)) w' := ⟨false, rfl, by simp [h], hb⟩
set_option maxRecDepth 100000 in
set_option maxHeartbeats 4000000 in
theorem refPeak_any (n s v : Nat) (es : List EdgeD) (R : List Int) (S : List SC) (ro : List Int) (ao ra : Option Addr) (cap rc : Nat) (back : Bool) (d : Int) (w : World) (hg : rightG ⟨(n : Int), es⟩ = 0) (hok : HierOK es n R S ro) (hn : n ≤ 12) (hes : es.length ≤ 40) (hs : s < n) (hv : v < n)
    (hd : FarV (relB back (arcG es)) (s : Int) (v : Int) d) (hc : Cel w ao (flat es)) (hR : Cel w ra (R.map encI)) :
    Calls Tryz.prog 32 #[.agg #[.int .i64 (n : Int), .slice ao es.length cap], .slice ra R.length rc, .int .i64 (s : Int), .int .i64 (v : Int), .bool back, .int .u64 d] w (PeakPost (relB back (arcG es)) (rk ro) s v d w) := by
  obtain ⟨W, hW⟩ : ∃ W, W = w.alloc (Obj.cells #[.int .i64 (n : Int), .slice ao es.length cap] 24) := ⟨_, rfl⟩
  have hbw : Below w.heap.size w W := by rw [hW]; exact Below.of_al _ _
  have c0 : W.cell? ⟨w.heap.size, 0, none⟩ = some (.int .i64 (n : Int)) := by rw [hW]; go_simp
  have c1 : W.cell? ⟨w.heap.size, 1, none⟩ = some (.slice ao es.length cap) := by rw [hW]; go_simp
  have HW := Lib.hid hW
  have HB := Lib.hid hbw
  have hlen := hok.len
  obtain ⟨rb, rf, rfl, hcell⟩ := cel_base (hR.go hbw) (by omega)
  have HRC := Lib.hid (fun (u : Nat) (hu : u < n) => (by
    have h1 := hcell u (by omega)
    have h2 := hok.at1 (u : Int) ⟨by omega, by omega⟩
    rw [Int.toNat_natCast, List.getElem?_eq_getElem (by omega)] at h2
    rw [h1, Option.some.inj h2] : W.cell? ⟨rb, rf + u, none⟩ = some (.int .i64 (rk ro (u : Int)))))
  have hnode : ∀ a b x, relB back (arcG es) a b x → nodeN n a ∧ nodeN n b := (hok.hierB back).node
  have HPK := Lib.hid (fun (x : Int) (l : List Int) (hl : ∀ u, u ∈ l ↔ noP n (rk ro) (v : Int) u) (d' : List Int) (h1 : rk ro (s : Int) ≤ rk ro (v : Int)) (h2 : d < 4611686018427387904) (h3 : AllIs es n (s : Int) back l d') =>
    show (gD d' (v : Int) = d ↔ Peak (relB back (arcG es)) (rk ro) s v d) from peak_iff hnode (fun a b x => rel_arcs) hl ⟨by omega, by omega⟩ ⟨by omega, by omega⟩ h1 (hd.lt h2).1 (h3.farX (fun a b x k => (hok.hierB back).pos a b x (rel_arcs.1 k).1) (fun k => by have := ((hl _).1 k).2.2; omega) ⟨by omega, by omega⟩) h2)
  have HF := Lib.hid (fun (h : ¬ d < 4611686018427387904) (k : Peak (relB back (arcG es)) (rk ro) s v d) => show False from (hd.ge h).2 d k.2.1.1)
  have HLT := Lib.hid (fun (h : rk ro (v : Int) < rk ro (s : Int)) (k : Peak (relB back (arcG es)) (rk ro) s v d) => show False by have := k.1; omega)
  have hd0 := hd.in
  have HA := Lib.hid (fun WX (hz : Below W.heap.size W WX) l no nc (hl : l.length ≤ 1000000) (hno : Cel WX no (l.map encI)) => refAll_any n s es ao no cap nc back l WX hg hn hes hs hl ((hc.go hbw).go hz) hno)
  have ks := HRC.out s hs
  have kv := HRC.out v hv
  have hs0 : (0 : Int) ≤ (s : Int) := by omega
  have hs1 : (s : Int) < (n : Int) := by omega
  have hv0 : (0 : Int) ≤ (v : Int) := by omega
  have hv1 : (v : Int) < (n : Int) := by omega
  have hRl : (R.length : Int) = (n : Int) := by omega
  have HOK := Lib.hid hok
  generalize relB back (arcG es) = A at *
  generalize rk ro = r at *
  rw [show R.length = n from hlen]
  clear hRl hlen hcell hd hok hc hR hW hbw hnode
  have f0 := fun p => cell_ext p ks
  have f1 := fun p => cell_ext p kv
  by_cases hdF : d < 4611686018427387904
  · have hng : ¬ 4611686018427387904 ≤ d := by omega
    by_cases hrk : r (v : Int) < r (s : Int)
    · go_enter Tryz.func32, Tryz.ntmps32
      go_upto_region 1 with (fail)
      rw [← HW.out]
      refine wp_region_ext (by kernel_rfl) (by kernel_rfl) ?_
      repeat (go_big_quiet_step (fail))
      refine wpQuiet_nil ?_
      rintro _ ⟨pq, rfl⟩
      have HBq := Lib.hid (below_ext W pq)
      generalize ext W pq = wq at HBq ⊢
      go_wp2
      refine bodyPost_ret (v := .bool false) (by simp [results, Tryz.results32, go_sem]; try rfl) rfl ?_
      exact PeakPost.no (HLT.out hrk) (HB.out.st HBq.out)
    · go_enter Tryz.func32, Tryz.ntmps32
      go_upto_region 1 with (fail)
      rw [← HW.out]
      refine wp_region_ext (by kernel_rfl) (by kernel_rfl) ?_
      repeat (go_big_quiet_step (fail))
      refine wpQuiet_nil ?_
      rintro _ ⟨pq, rfl⟩
      have HBq := Lib.hid (below_ext W pq)
      generalize ext W pq = wq at HBq ⊢
      clear f0 f1
      go_wp2
      go_loopg [13, 14] n (fun gg v13 v14 wr => ∃ k : Nat, k ≤ n ∧ n - k ≤ gg ∧ v14 = .int .i64 k ∧ Aside (wr.ownsRow W.heap.size 3 1 v13 (noL r v k).length ((noL r v k).map encI)) ∧ Aside (Below W.heap.size W wr))
      case atStart => exact ⟨0, Nat.zero_le _, by omega, rfl, World.ownsRow_nil _ _ _ _, HBq.out⟩
      case round =>
        obtain ⟨k, hk, hgg, rfl, HR, HBr⟩ := hrel
        have p0 := cell_later HBr.out c0
        by_cases hlt : k < n
        · have hlt3 : (k : Int) < (n : Int) := by omega
          have hk0 : (0 : Int) ≤ (k : Int) := by omega
          have k1 := cell_later HBr.out kv
          have k2 := cell_later HBr.out (HRC.out k hlt)
          have f1 := fun p => cell_ext p k1
          have f2 := fun p => cell_ext p k2
          have HL := Lib.hid (noL_len r v k)
          by_cases hkv : k = v
          · have HST := Lib.hid (noL_no (r := r) (v := v) (k := k) (fun h => h.1 hkv))
            have hkb : ((k : Int) != (v : Int)) = false := by simp; omega
            go_wp2
            refine wp_region_ext (by kernel_rfl) (by kernel_rfl) ?_
            repeat (go_big_quiet_step (fail))
            refine wpQuiet_nil ?_
            rintro _ ⟨ps, rfl⟩
            have HBs := Lib.hid (below_ext wr ps)
            generalize ext wr ps = ws at HBs ⊢
            go_wp2
            go_roundg (n - (k + 1))
            case measure => omega
            case rel => exact ⟨k + 1, by omega, Nat.le_refl _, by go_num, by rw [HST.out]; exact hp_owns_go HR.out HBs.out, HBr.out.st HBs.out⟩
          · have hkb : ((k : Int) != (v : Int)) = true := by simp; omega
            by_cases hgt : r (v : Int) < r (k : Int)
            · have HST := Lib.hid (noL_yes (r := r) (v := v) (k := k) hkv hgt)
              go_wp2
              refine wp_region_ext (by kernel_rfl) (by kernel_rfl) ?_
              repeat (go_big_quiet_step (fail))
              refine wpQuiet_nil ?_
              rintro _ ⟨ps, rfl⟩
              have HBs := Lib.hid (below_ext wr ps)
              generalize ext wr ps = ws at HBs ⊢
              have HRs := Lib.hid (hp_owns_go HR.out HBs.out)
              have HB2 := Lib.hid (HBr.out.st HBs.out)
              generalize noL r v k = row at *
              go_wp2_with (at_builtin; go_must (refine wpList_app W.heap.size 3 _ 1 8 elem_int Tryz.underlying25 _ row.length (row.map encI) ⟨ws.heap.size, 0, none⟩ 1 1 [.int .i64 (k : Int)] rfl rfl (World.ownsRow.alloc HRs.out _) (cell_one_new _ _ _) (one_cells rfl) ⟨rfl, by decide, (by have := HL.out; omega), (by have := HL.out; omega), (by have := HB2.out.size; simp; omega)⟩ ?_); intro g6 cap6 w6 hown6 hgrow6 hbl6 hat6 hlt6; (have HO6 := Lib.hid hown6); (have HB6 := Lib.hid ((HB2.out.al _).trans hbl6)); clear hown6 hgrow6 hbl6 hat6 hlt6)
              go_roundg (n - (k + 1))
              case measure => omega
              case rel => exact ⟨k + 1, by omega, Nat.le_refl _, by go_num, by rw [HST.out, List.length_append, List.map_append]; exact HO6.out, HB6.out⟩
            · have HST := Lib.hid (noL_no (r := r) (v := v) (k := k) (fun h => hgt h.2))
              go_wp2
              refine wp_region_ext (by kernel_rfl) (by kernel_rfl) ?_
              repeat (go_big_quiet_step (fail))
              refine wpQuiet_nil ?_
              rintro _ ⟨ps, rfl⟩
              have HBs := Lib.hid (below_ext wr ps)
              generalize ext wr ps = ws at HBs ⊢
              go_wp2
              go_roundg (n - (k + 1))
              case measure => omega
              case rel => exact ⟨k + 1, by omega, Nat.le_refl _, by go_num, by rw [HST.out]; exact hp_owns_go HR.out HBs.out, HBr.out.st HBs.out⟩
        · obtain rfl : n = k := by omega
          have p1 := cell_later HBr.out c1
          obtain ⟨na, nc, rfl, hce⟩ := Cel.of_owns HR.out
          have HAA := Lib.hid (HA.out wr HBr.out (noL r v n) na nc (by have := noL_len r v n; omega) hce)
          have HPP := Lib.hid (HPK.out 0 (noL r v n) (fun u => noL_mem))
          have hls : r (s : Int) ≤ r (v : Int) := by omega
          unfold AllPost at HAA
          go_wp2_with (go_at_call 74; refine HAA.out.mono ?_; rintro e w3 ⟨b3, d3, rfl, h1, h2, h3, h4⟩; (have HP3 := Lib.hid (HPP.out d3 hls hdF h4)); (have k3 := (show w3.cell? ⟨b3, v, none⟩ = some (.int .u64 (gD d3 (v : Int))) by (obtain ⟨_, _, e9, h9⟩ := h1 v (.int .u64 (gD d3 (v : Int))) (by rw [List.getElem?_map]; unfold gD; rw [Int.toNat_natCast, List.getD_eq_getElem?_getD, List.getElem?_eq_getElem (by rw [h4.1]; exact hv)]; rfl)); cases e9; rw [Nat.zero_add] at h9; exact h9)); (have HB3 := Lib.hid h2); clear h1 h2 h3 h4)
          refine bodyPost_ret (v := .bool (gD d3 (v : Int) == d)) (by simp [results, Tryz.results32, go_sem]; try rfl) rfl ?_
          refine ⟨_, rfl, ?_, HB.out.st (HBr.out.st HB3.out)⟩
          rw [← HP3.out]
          simp
  · have hge : 4611686018427387904 ≤ d := by omega
    go_enter Tryz.func32, Tryz.ntmps32
    go_upto_region 1 with (fail)
    rw [← HW.out]
    refine wp_region_ext (by kernel_rfl) (by kernel_rfl) ?_
    repeat (go_big_quiet_step (fail))
    refine wpQuiet_nil ?_
    rintro _ ⟨pq, rfl⟩
    have HBq := Lib.hid (below_ext W pq)
    generalize ext W pq = wq at HBq ⊢
    go_wp2
    refine bodyPost_ret (v := .bool false) (by simp [results, Tryz.results32, go_sem]; try rfl) rfl ?_
    exact PeakPost.no (HF.out hdF) (HB.out.st HBq.out)
end Go.Proofs.YtkdomobedfhhgaaGreat
end

section
namespace Go.Proofs.YtkdomobedfhhgaaGreat
open Go Go.Proofs Go.RowKit Go.Shelf Go.Proofs.YtkdomobedfhhgaaGreat.Hp Go.Proofs.YtkdomobedfhhgaaGreat.Ch

def lightG (n : Int) (es : List EdgeD) : Bool := (decide (n ≤ 100) || decide (4096 < n)) && decide ((es.length : Int) ≤ 300)
set_option maxHeartbeats 1000000 in
theorem light05_any (n : Int) (es : List EdgeD) (ao : Option Addr) (cap : Nat) (w : World) :
    Calls Tryz.prog 69 #[.agg #[.int .i64 n, .slice ao es.length cap]] w fun e w' => e = .returned (.bool (lightG n es)) ∧ Below w.heap.size w w' := by
  unfold lightG
  by_cases h1 : n ≤ 100
  · rw [decide_eq_true h1, Bool.true_or, Bool.true_and]
    have g1 : decide (n ≤ 100) = true := decide_eq_true h1
    go_enter Tryz.func69, Tryz.ntmps69
    go_wp2
    go_ret
    exact ⟨rfl, Below.of_al _ _⟩
  · rw [decide_eq_false h1, Bool.false_or]
    have g1 : decide (n ≤ 100) = false := decide_eq_false h1
    by_cases h2 : 4096 < n
    · rw [decide_eq_true h2, Bool.true_and]
      have g2 : decide (n > 4096) = true := decide_eq_true h2
      go_enter Tryz.func69, Tryz.ntmps69
      go_wp2
      go_ret
      exact ⟨rfl, Below.of_al _ _⟩
    · rw [decide_eq_false h2, Bool.false_and]
      have g2 : decide (n > 4096) = false := decide_eq_false h2
      go_enter Tryz.func69, Tryz.ntmps69
      go_wp2
      go_ret
      exact ⟨rfl, Below.of_al _ _⟩

def light20 (n : Int) (es : List EdgeD) : Bool := lightG n es && (decide (n ≤ 12) || decide (4096 < n)) && decide ((es.length : Int) ≤ 40)
theorem light20_small {g : GD} (h : light20 g.n g.es = true) : (rightG g = 0 → g.n ≤ 12) ∧ g.es.length ≤ 40 := by
  unfold light20 at h
  simp only [Bool.and_eq_true, Bool.or_eq_true, decide_eq_true_eq] at h
  refine ⟨fun hr => ?_, by omega⟩
  have := right_n hr
  omega
set_option maxHeartbeats 1000000 in
theorem light20_any (n : Int) (es : List EdgeD) (ao : Option Addr) (cap : Nat) (w : World) :
    Calls Tryz.prog 14 #[.agg #[.int .i64 n, .slice ao es.length cap]] w fun e w' => e = .returned (.bool (light20 n es)) ∧ Below w.heap.size w w' := by
  have HL := Lib.hid (light05_any n es ao cap)
  unfold light20
  obtain ⟨W, hW⟩ : ∃ W, W = w.alloc (Obj.cells #[.int .i64 n, .slice ao es.length cap] 24) := ⟨_, rfl⟩
  have hbw : Below w.heap.size w W := by rw [hW]; exact Below.of_al _ _
  have c0 : W.cell? ⟨w.heap.size, 0, none⟩ = some (.int .i64 n) := by rw [hW]; go_simp
  have c1 : W.cell? ⟨w.heap.size, 1, none⟩ = some (.slice ao es.length cap) := by rw [hW]; go_simp
  have HB := Lib.hid hbw
  have HW := Lib.hid hW
  clear hbw hW
  cases hb : lightG n es with
  | false =>
    rw [hb] at HL
    clear hb
    go_enter Tryz.func14, Tryz.ntmps14
    go_upto_region 1 with (fail)
    rw [← HW.out]
    go_wp2_with (go_at_call 69; refine (HL.out _).mono ?_; rintro e w1 ⟨rfl, hb1⟩; (have HB1 := Lib.hid hb1); clear hb1)
    go_ret
    exact ⟨by simp, HB.out.st HB1.out⟩
  | true =>
    rw [hb] at HL
    clear hb
    by_cases h1 : n ≤ 12
    · go_enter Tryz.func14, Tryz.ntmps14
      go_upto_region 1 with (fail)
      rw [← HW.out]
      go_wp2_with (go_at_call 69; refine (HL.out _).mono ?_; rintro e w1 ⟨rfl, hb1⟩; (have d0 := cell_later hb1 c0); (have d1 := cell_later hb1 c1); (have HB1 := Lib.hid hb1); clear hb1)
      go_ret
      exact ⟨by simp [h1], HB.out.st HB1.out⟩
    · by_cases h2 : 4096 < n
      · go_enter Tryz.func14, Tryz.ntmps14
        go_upto_region 1 with (fail)
        rw [← HW.out]
        go_wp2_with (go_at_call 69; refine (HL.out _).mono ?_; rintro e w1 ⟨rfl, hb1⟩; (have d0 := cell_later hb1 c0); (have d1 := cell_later hb1 c1); (have HB1 := Lib.hid hb1); clear hb1)
        go_ret
        exact ⟨by simp [h1, h2], HB.out.st HB1.out⟩
      · go_enter Tryz.func14, Tryz.ntmps14
        go_upto_region 1 with (fail)
        rw [← HW.out]
        go_wp2_with (go_at_call 69; refine (HL.out _).mono ?_; rintro e w1 ⟨rfl, hb1⟩; (have d0 := cell_later hb1 c0); (have d1 := cell_later hb1 c1); (have HB1 := Lib.hid hb1); clear hb1)
        go_ret
        exact ⟨by simp [h1, h2]; intro h; omega, HB.out.st HB1.out⟩
theorem BltPost.two {g : GD} {k : Int} {w w' : World} {e : Ending} (h : BltPost g k w e w') : ∃ p, e = .returned (.tuple #[.pointer p, .int .i64 k]) ∧ Below w.heap.size w w' ∧ (k = 0 → rightG g = 0 → g.n ≤ 12 → ∃ hb R S ro, p = some ⟨hb, 0, none⟩ ∧ BH w' hb g.n.toNat g.es R S ro) := by
  have h0 := h
  obtain ⟨h1 | h1, h2⟩ := h
  · obtain ⟨rfl, hb, R, S, ro, e, hm, ho⟩ := h1
    exact ⟨_, e, h2, fun _ hg hn => by
      have := right_n hg
      exact ⟨hb, R, S, ro, rfl, ⟨hm, ho, by omega, by omega⟩⟩⟩
  · exact ⟨none, h1.2, h2, fun hk => absurd hk h1.1⟩
/-- the boxes of the arguments -/
structure QB (W : World) (b : Nat) (g : GD) (ao : Option Addr) (cap : Nat) (h1 s1 : Int) (ro : Option Addr) (r : List Int) (rc : Nat) (h2 s2 : Int) (qo : Option Addr) (q : List Int) (qc : Nat) : Prop where
  g0 : W.cell? ⟨b, 0, none⟩ = some (.int .i64 g.n)
  g1 : W.cell? ⟨b, 1, none⟩ = some (.slice ao g.es.length cap)
  a0 : W.cell? ⟨b + 1, 0, none⟩ = some (.int .i64 h1)
  a1 : W.cell? ⟨b + 1, 1, none⟩ = some (.int .i64 s1)
  a2 : W.cell? ⟨b + 1, 2, none⟩ = some (.slice ro r.length rc)
  b0 : W.cell? ⟨b + 2, 0, none⟩ = some (.int .i64 h2)
  b1 : W.cell? ⟨b + 2, 1, none⟩ = some (.int .i64 s2)
  b2 : W.cell? ⟨b + 2, 2, none⟩ = some (.slice qo q.length qc)
theorem QB.go {W W' : World} {b : Nat} {g : GD} {ao : Option Addr} {cap : Nat} {h1 s1 : Int} {ro : Option Addr} {r : List Int} {rc : Nat} {h2 s2 : Int} {qo : Option Addr} {q : List Int} {qc : Nat} (h : QB W b g ao cap h1 s1 ro r rc h2 s2 qo q qc) (hz : Below W.heap.size W W') : QB W' b g ao cap h1 s1 ro r rc h2 s2 qo q qc :=
  ⟨cell_later hz h.g0, cell_later hz h.g1, cell_later hz h.a0, cell_later hz h.a1, cell_later hz h.a2, cell_later hz h.b0, cell_later hz h.b1, cell_later hz h.b2⟩
theorem thirds {n : Nat} {A : Int → Int → Int → Prop} {s t v st sv vt x : Int} (hA : ∀ u v w, A u v w → 1 ≤ w) (h1 : DistIs n A s t st x) (h2 : DistIs n A s v sv 0) (h3 : DistIs n A v t vt 0) : x = 0 ∧ st ≤ sv + vt ∧ 0 ≤ sv ∧ sv ≤ 1152921504606846976 ∧ 0 ≤ vt ∧ vt ≤ 1152921504606846976 := by
  rcases h2 with ⟨_, k1, k2, k3, k4⟩ | ⟨h, _⟩ | ⟨h, _⟩
  · rcases h3 with ⟨_, m1, m2, m3, m4⟩ | ⟨h, _⟩ | ⟨h, _⟩
    · have hw := k3.1.trans trivial m3.1
      have p1 := k3.1.nonneg hA
      have p2 := m3.1.nonneg hA
      rcases h1 with ⟨e, _, _, h1, _⟩ | ⟨_, _, _, _, h1⟩ | ⟨_, _, h1⟩
      · exact ⟨e, h1.2 _ hw, p1, k4, p2, m4⟩
      · exact absurd hw (h1 _)
      · exact absurd ⟨k1, m2⟩ h1
    · cases h
    · cases h
  · cases h
  · cases h
end Go.Proofs.YtkdomobedfhhgaaGreat
end

section
namespace Go.Proofs.YtkdomobedfhhgaaGreat
open Go Go.Proofs Go.RowKit Go.Shelf Go.Proofs.YtkdomobedfhhgaaGreat.Hp Go.Proofs.YtkdomobedfhhgaaGreat.Ch

set_option maxRecDepth 100000 in
set_option maxHeartbeats 2000000 in
theorem hierarchy_any (hb n : Nat) (es : List EdgeD) (R : List Int) (S : List SC) (O I : List (List Int)) (w : World) (h : HierM w hb n es R S O I) (hn : n ≤ 1000000) :
    Calls Tryz.prog 21 #[.pointer (some ⟨hb, 0, none⟩)] w (CHPost R S w) := by
  obtain ⟨W, hW⟩ : ∃ W, W = w.alloc (Obj.cells #[.slice none 0 0, .slice none 0 0] 45) := ⟨_, rfl⟩
  have hbw : Below w.heap.size w W := by rw [hW]; exact Below.of_al _ _
  obtain ⟨a2, k2, c2, m2⟩ := h.c2
  obtain ⟨a3, k3, c3, m3⟩ := h.c3
  have HCH := Lib.hid (cloneH_any R S a2 a3 k2 k3 W (m2.go hbw) (m3.go hbw) (by rw [h.rl]; exact hn) h.small.2.1)
  have d2 := cell_later hbw c2
  have d3 := cell_later hbw c3
  have q0 : W.cell? ⟨w.heap.size, 0, none⟩ = some (.slice none 0 0) := by rw [hW]; go_simp
  have q1 : W.cell? ⟨w.heap.size, 1, none⟩ = some (.slice none 0 0) := by rw [hW]; go_simp
  have z0 : W.frozen? ⟨w.heap.size, 0, none⟩ = false := by rw [hW]; go_simp
  have z1 : W.frozen? ⟨w.heap.size, 1, none⟩ = false := by rw [hW]; go_simp
  have HSZ := Lib.hid (show W.heap.size = w.heap.size + 1 by rw [hW]; simp)
  have HB := Lib.hid hbw
  have HW := Lib.hid hW
  unfold CHPost at HCH
  clear hW hbw h m2 m3 c2 c3
  go_enter Tryz.func21, Tryz.ntmps21
  go_upto_region 1 with (fail)
  rw [← HW.out]
  go_wp2_with fail
  refine HCH.out.mono ?_
  rintro e w1 ⟨a1, k1, b1, l1, rfl, h1, h2, hb1, hf1, hf2⟩
  have g0 := cell_later hb1 q0
  have g1 := cell_later hb1 q1
  have y0 := (hb1.frozen (p := ⟨w.heap.size, 0, none⟩) (by show w.heap.size < _; rw [HSZ.out]; omega)).trans z0
  have y1 := (hb1.frozen (p := ⟨w.heap.size, 1, none⟩) (by show w.heap.size < _; rw [HSZ.out]; omega)).trans z1
  have H1 := Lib.hid (And.intro h1 (And.intro h2 (And.intro hb1 (And.intro hf1 hf2))))
  clear h1 h2 hb1 hf1 hf2 d2 d3 q0 q1 z0 z1
  go_wp2_with fail
  obtain ⟨r0, r1⟩ := h2_read (.slice a1 R.length k1) (.slice b1 S.length l1) g0 g1
  refine bodyPost_ret (v := .agg #[.slice a1 R.length k1, .slice b1 S.length l1]) (by simp [results, Tryz.results21, go_sem, r0, r1]; try rfl) rfl ?_
  obtain ⟨h1, h2, hb1, hf1, hf2⟩ := H1.out
  have hs := HSZ.out
  have ho : OffX (· = w.heap.size) w1 ((w1.setCell ⟨w.heap.size, 0, none⟩ (.slice a1 R.length k1)).setCell ⟨w.heap.size, 1, none⟩ (.slice b1 S.length l1)) :=
    (show OffX (· = w.heap.size) w1 (w1.setCell ⟨w.heap.size, 0, none⟩ (.slice a1 R.length k1)) from .set _ rfl).trans (.set _ rfl)
  have hb4 : Below w.heap.size w w1 := HB.out.st hb1
  exact ⟨a1, k1, b1, l1, rfl, cel_off h1 ho (fun k hk e => by have := hf1 k hk; have e2 : k = w.heap.size := e; omega), cel_off h2 ho (fun k hk e => by have := hf2 k hk; have e2 : k = w.heap.size := e; omega), hb4.trans (ho.below hb4.size (fun k hk => by have e2 : k = w.heap.size := hk; omega)), fun k hk => by have := hf1 k hk; omega, fun k hk => by have := hf2 k hk; omega⟩

end Go.Proofs.YtkdomobedfhhgaaGreat
end
