/-
  Walk of the law QueryOracles.
  Proved here: for every input, the law QueryOracles answers true, and the arguments read afterwards as they read before (no condition).
-/
import Derived.Test.YtkdomobedfhhgaaGreatProg
import Derived.Test.YtkdomobedfhhgaaGreatQe01
import Derived.Test.YtkdomobedfhhgaaGreatQc03
import Derived.Test.YtkdomobedfhhgaaGreatQd03
import Derived.Test.YtkdomobedfhhgaaGreatRows
import Derived.Test.YtkdomobedfhhgaaGreatQc04
set_option linter.unusedVariables false
set_option linter.unusedSimpArgs false
set_option linter.unnecessarySimpa false
section
namespace Go.Proofs.YtkdomobedfhhgaaGreat
open Go Go.Proofs Go.RowKit Go.Shelf Go.Proofs.YtkdomobedfhhgaaGreat.Hp Go.Proofs.YtkdomobedfhhgaaGreat.Ch

theorem OrW.same {w w' : World} {ob hb sb kb n t : Nat} {A : Int → Int → Int → Prop} {lb : List LB} {asked : List Int} (h : OrW w ob hb sb kb n t A lb asked) (hk : ∀ k, k = ob ∨ k = sb ∨ k = kb → w'.heap[k]? = w.heap[k]?) : OrW w' ob hb sb kb n t A lb asked := by
  obtain ⟨f, k1, k2, k3⟩ := h.kn
  exact ⟨(World.cell?_of_block (hk ob (.inl rfl))).trans h.c0, (World.cell?_of_block (hk ob (.inl rfl))).trans h.c1, (World.cell?_of_block (hk ob (.inl rfl))).trans h.c2, h.sp.eq (hk sb (.inr (.inl rfl))), ⟨f, k1.eq (hk kb (.inr (.inr rfl))), k2, k3⟩, h.ne⟩
theorem OrW.lt {w : World} {ob hb sb kb n t : Nat} {A : Int → Int → Int → Prop} {lb : List LB} {asked : List Int} (h : OrW w ob hb sb kb n t A lb asked) : ob < w.heap.size ∧ sb < w.heap.size ∧ kb < w.heap.size := by
  obtain ⟨f, k1, _⟩ := h.kn
  exact ⟨World.block_lt_of_cell? _ _ h.c0, h.sp.lt, k1.toW.lt⟩
/-- what is kept through the rounds -/
structure OrL (W2 wr : World) (ob hb sb kb n t : Nat) (es : List EdgeD) (lb : List LB) (fb : Nat) (dd : List Int) (B : Nat) (asked : List Int) : Prop where
  or : OrW wr ob hb sb kb n t (arcG es) lb asked
  fr : Cel wr (some ⟨fb, 0, none⟩) (dd.map encW)
  bel : Below W2.heap.size W2 wr
  sz : B ≤ wr.heap.size
  lts : ob < B ∧ sb < B ∧ kb < B ∧ fb < B ∧ W2.heap.size ≤ B ∧ W2.heap.size ≤ kb ∧ fb ≠ kb
section
variable {W2 wr wr' : World} {ob hb sb kb n t : Nat} {es : List EdgeD} {lb : List LB} {fb : Nat} {dd : List Int} {B : Nat} {asked asked' : List Int}
theorem cel_same {w w' : World} {b : Nat} {xs : List Value} (h : Cel w (some ⟨b, 0, none⟩) xs) (hk : w'.heap[b]? = w.heap[b]?) : Cel w' (some ⟨b, 0, none⟩) xs := by
  intro i u hi
  obtain ⟨b', o', e, h1⟩ := h i u hi
  cases e
  exact ⟨b, 0, rfl, (World.cell?_of_block (a := ⟨b, 0 + i, none⟩) hk).trans h1⟩
theorem OrL.goB (h : OrL W2 wr ob hb sb kb n t es lb fb dd B asked) (hz : Below B wr wr') : OrL W2 wr' ob hb sb kb n t es lb fb dd B asked :=
  ⟨h.or.same (fun k hk => hz.block k (by have := h.lts; rcases hk with e | e | e <;> omega)), cel_same h.fr (hz.block _ h.lts.2.2.2.1), h.bel.trans (hz.mono h.lts.2.2.2.2.1), Nat.le_trans h.sz hz.size, h.lts⟩
theorem OrL.go (h : OrL W2 wr ob hb sb kb n t es lb fb dd B asked) (hz : Below wr.heap.size wr wr') : OrL W2 wr' ob hb sb kb n t es lb fb dd B asked := h.goB (hz.mono h.sz)
theorem OrL.step (h : OrL W2 wr ob hb sb kb n t es lb fb dd B asked) (ho : OrW wr' ob hb sb kb n t (arcG es) lb asked') (hx : OffX (· = kb) wr wr') : OrL W2 wr' ob hb sb kb n t es lb fb dd B asked' := by
  have := h.lts
  have hs := h.sz
  exact ⟨ho, cel_same h.fr (hx.block _ (by omega) (by omega)), h.bel.trans (hx.below h.bel.size (fun k e => by have e2 : k = kb := e; omega)), Nat.le_trans h.sz hx.size, h.lts⟩
end
theorem Cel_of_slice {w : World} {base : Nat} {a : Option Addr} {c n : Nat} {xs : List Value} (h : w.ownsRow base 3 1 (.slice a n c) n xs) : Cel w a xs := by
  obtain ⟨a', c', e, h1⟩ := Cel.of_owns h
  cases e
  exact h1
theorem FromPost.val {w w' : World} {ob hb sb kb n t : Nat} {A : Int → Int → Int → Prop} {lb : List LB} {asked : List Int} {s : Int} {e : Ending} (h : FromPost w ob hb sb kb n t A lb asked s e w') :
    ∃ (d : Int) (b : Bool), e = .returned (.tuple #[.int .u64 d, .bool b]) ∧ ∃ x, FarV A s t x ∧ ((x < 4611686018427387904 ∧ d = x ∧ b = true) ∨ (4611686018427387904 ≤ x ∧ d = 0 ∧ b = false)) ∧ OrW w' ob hb sb kb n t A lb (if s ∈ asked then asked else asked ++ [s]) ∧ OffX (· = kb) w w' := by
  obtain ⟨x, h1, h2, h3, h4⟩ := h
  rcases h2 with ⟨h2, rfl⟩ | ⟨h2, rfl⟩
  · exact ⟨x, true, rfl, x, h1, .inl ⟨h2, rfl, rfl⟩, h3, h4⟩
  · exact ⟨0, false, rfl, x, h1, .inr ⟨h2, rfl, rfl⟩, h3, h4⟩
set_option maxRecDepth 100000 in
set_option maxHeartbeats 4000000 in
theorem QueryOracles_any (g : GD) (ao : Option Addr) (cap : Nat) (h1 s1 : Int) (ro : Option Addr) (r : List Int) (rc : Nat) (t : Int) (lo : Option Addr) (l : List Int) (lc : Nat) (w : World) (hc : Cel w ao (flat g.es)) (hr : Cel w ro (r.map encI)) (hl : Cel w lo (l.map encI)) :
    Calls Tryz.prog 4 #[.agg #[.int .i64 g.n, .slice ao g.es.length cap], .agg #[.int .i64 h1, .int .i64 s1, .slice ro r.length rc], .int .i64 t, .slice lo l.length lc] w fun e w' => e = .returned (.bool true) ∧ Below w.heap.size w w' := by
  obtain ⟨V, hV⟩ : ∃ V, V = (w.alloc (Obj.cells #[.int .i64 g.n, .slice ao g.es.length cap] 24)).alloc (Obj.cells #[.int .i64 h1, .int .i64 s1, .slice ro r.length rc] 27) := ⟨_, rfl⟩
  have hbV : Below w.heap.size w V := by rw [hV]; exact (Below.of_al _ _).al _
  have HQ := Lib.hid (show QB1 V w.heap.size g ao cap h1 s1 ro r rc by rw [hV]; constructor <;> go_simp)
  have HAL := Lib.hid alive23_any
  have HLI := Lib.hid (light20_any g.n g.es ao cap V)
  have HB := Lib.hid hbV
  have HV := Lib.hid hV
  obtain ⟨p0, p1, p2, p3, p4⟩ := HQ.out
  have HCS := Lib.hid (And.intro (hc.go hbV) (And.intro (hr.go hbV) (hl.go hbV)))
  clear hbV hV hc hr hl
  cases hlt : light20 g.n g.es with
  | false =>
    rw [hlt] at HLI
    clear hlt
    go_enter Tryz.func4, Tryz.ntmps4
    go_upto_region 1 with (fail)
    rw [← HV.out]
    go_wp2_with (first
      | (go_at_call 14; refine HLI.out.mono ?_; rintro e w1 ⟨rfl, hb1⟩; (have HB1 := Lib.hid (HB.out.st hb1)); clear hb1)
      | (go_at_call 15; refine (HAL.out _).mono ?_; rintro e w2 ⟨rfl, hb2⟩; (have HB2 := Lib.hid (HB1.out.st hb2)); clear hb2))
    go_ret
    exact ⟨rfl, HB2.out⟩
  | true =>
    obtain ⟨hg, hes⟩ := light20_small hlt
    have HG := Lib.hid hg
    rw [hlt] at HLI
    clear hlt hg
    by_cases hbad : (60 : Int) < (r.length : Int) ∨ (40 : Int) < (l.length : Int)
    · have hcase : (60 : Int) < (r.length : Int) ∨ (¬ (60 : Int) < (r.length : Int) ∧ (40 : Int) < (l.length : Int)) := by omega
      clear hbad
      rcases hcase with h60 | ⟨h60, h40⟩
      all_goals
        go_enter Tryz.func4, Tryz.ntmps4
        go_upto_region 1 with (fail)
        rw [← HV.out]
        go_wp2_with (first
          | (go_at_call 14; refine HLI.out.mono ?_; rintro e w1 ⟨rfl, hb1⟩; (have HB1 := Lib.hid (HB.out.st hb1)); (have k4 := cell_later hb1 p4); clear hb1)
          | (go_at_call 15; refine (HAL.out _).mono ?_; rintro e w2 ⟨rfl, hb2⟩; (have HB2 := Lib.hid (HB1.out.st hb2)); clear hb2))
        go_ret
        exact ⟨rfl, HB2.out⟩
    · have hr6 : ¬ (60 : Int) < (r.length : Int) := fun h => hbad (.inl h)
      have hl4 : ¬ (40 : Int) < (l.length : Int) := fun h => hbad (.inr h)
      clear hbad
      have HBA := Lib.hid (fun W (hz : Below V.heap.size V W) => built_any g ao ro cap rc h1 s1 r W (HCS.out.1.go hz) (HCS.out.2.1.go hz) (fun k => by have := HG.out k; omega) (by omega) (by omega))
      have HZ := Lib.hid (fun k : buildB g h1 s1 r = 0 => build_right k)
      generalize buildB g h1 s1 r = k1 at *
      by_cases e1 : k1 = 0
      · subst e1
        have hgz := HZ.out rfl
        have hn := HG.out hgz
        have hgn := right_n hgz
        obtain ⟨n, hnn⟩ : ∃ n : Nat, g.n = (n : Int) := ⟨g.n.toNat, by omega⟩
        obtain ⟨gn, es⟩ := g
        simp only at hnn hn hes
        subst hnn
        have hn12 : n ≤ 12 := by omega
        have hes40 : es.length ≤ 40 := by omega
        have HFR := Lib.hid (fun (u : Nat) (hu : u < n) W (hz : Below V.heap.size V W) => refFar_any n u es ao cap true W hgz hn12 hes40 hu (HCS.out.1.go hz))
        have HGZ := Lib.hid hgz
        clear hgz HZ
        go_enter Tryz.func4, Tryz.ntmps4
        go_upto_region 1 with (fail)
        rw [← HV.out]
        go_upto_region 3 with (go_at_call 14; refine HLI.out.mono ?_; rintro e w1 ⟨rfl, hb1⟩; (have HB1 := Lib.hid hb1); (obtain ⟨x0, x1, x2, x3, x4⟩ := HQ.out.go hb1); clear hb1)
        go_upto_region 4 with (go_at_call 16; refine (HBA.out _ HB1.out).mono ?_; rintro e w2 hp2; (obtain ⟨hb, R, S, po, rfl, hbh, hb2⟩ := hp2.good rfl HGZ.out hn); (have HH := Lib.hid (show BH w2 hb n es R S po from hbh)); (have HB2 := Lib.hid (HB1.out.st hb2)); (have z0 := cell_later hb2 x0); (have z1 := cell_later hb2 x1); clear hb2 hp2 hbh)
        clear x0 x1 x2 x3 x4 p0 p1 p2 p3 p4
        by_cases ht : nodeN n t
        · obtain ⟨u, rfl⟩ : ∃ u : Nat, t = u := ⟨t.toNat, by have := ht.1; omega⟩
          have hu : u < n := by have := ht.2; omega
          have t0 := ht.1
          have t1 := ht.2
          have HTO := Lib.hid (to_any hb n u es R S po w2 HH.out hu)
          have HF2 := Lib.hid (HFR.out u hu)
          have hposT : ∀ u v w, relB true (arcG es) u v w → 1 ≤ w := (HH.out.ok.hierB true).pos
          have HFV := Lib.hid (fun (dd : List Int) (h : AllIs es n (u : Int) true [] dd) (v : Int) (hv : node n v) x (hx : FarV (arcG es) v (u : Int) x) => show gD dd v = x from by
            have h1 := h.far hposT hv
            rcases hx with ⟨k, k2⟩ | ⟨k, k2⟩
            · rcases h1 with ⟨m, _⟩ | ⟨_, m⟩
              · exact m.uniq k.turn
              · exact absurd k.turn.1 (m _)
            · rcases h1 with ⟨m, _⟩ | ⟨m, _⟩
              · exact absurd m.turn.1 (k2 _)
              · rw [m, k])
          unfold ToPost at HTO
          unfold AllPost at HF2
          clear ht hposT
          go_upto_region 5 with (go_at_call 24; refine HTO.out.mono ?_; rintro e w3 ⟨ob, sb, kb, lb, rfl, ho3, hs3, hb3, hk3, hk4⟩; (have HO3 := Lib.hid ho3); (have HS3 := Lib.hid hs3); (have HK3 := Lib.hid (And.intro hk3 hk4)); (have HH3 := Lib.hid (HH.out.go hb3)); (have HB3 := Lib.hid (HB2.out.st hb3)); (have HB23 := Lib.hid hb3); (have c0 := cell_later hb3 z0); (have c1 := cell_later hb3 z1); clear ho3 hs3 hb3 hk3 hk4)
          go_upto_region 9 with (go_at_call 20; refine (HF2.out _ HB3.out).mono ?_; rintro e w4 ⟨fb, dd, rfl, h1, h2, h3, h4⟩; (have HC4 := Lib.hid h1); (have HA4 := Lib.hid h4); (have hdl := h4.1); (have HO4 := Lib.hid (HO3.out.go h2)); (have HH4 := Lib.hid (HH3.out.go h2)); (have HB4 := Lib.hid (HB3.out.st h2)); (have HB24 := Lib.hid (HB23.out.st h2)); (have HSZ := Lib.hid (And.intro h2.size h3)); (have d0 := cell_later h2 c0); clear h1 h2 h3 h4)
          have HL0 := Lib.hid (show OrL w2 w4 ob hb sb kb n u es lb fb dd w4.heap.size [] from by
            have h1 := HO4.out.lt
            have h2 := HK3.out
            have h3 := HSZ.out
            obtain ⟨b9, o9, e9, h9⟩ := HC4.out 0 (.int .u64 (gD dd (0 : Int))) (by
              have hd0 : 0 < dd.length := by rw [hdl]; omega
              rw [List.getElem?_map]
              unfold gD
              rw [show (0 : Int).toNat = 0 from rfl, List.getD_eq_getElem?_getD, List.getElem?_eq_getElem hd0]
              rfl)
            cases e9
            have h10 := World.block_lt_of_cell? _ _ h9
            have h11 : fb < w4.heap.size := h10
            exact ⟨HO4.out, HC4.out, HB24.out, Nat.le_refl _, ⟨h1.1, h1.2.1, h1.2.2, h11, by have := HB24.out.size; omega, h2.1, by omega⟩⟩)
          have hw4 := HB4.out.size
          have HQB4 := Lib.hid hw4
          clear hw4
          clear d0 c0 c1 z0 z1
          go_wp2
          go_loopg [16, 17] l.length (fun gg v16 v17 wr => ∃ (k : Nat) (asked : List Int), k ≤ l.length ∧ l.length - k ≤ gg ∧ v17 = .int .i64 k ∧ asked.length ≤ k ∧ Aside (wr.ownsRow w4.heap.size 3 1 v16 asked.length (asked.map encI)) ∧ Aside (OrL w2 wr ob hb sb kb n u es lb fb dd w4.heap.size asked))
          case atStart => exact ⟨0, [], Nat.zero_le _, by omega, rfl, by simp, World.ownsRow_nil _ _ _ _, HL0.out⟩
          case round =>
            obtain ⟨k, asked, hk, hgg, rfl, hak, HR, HL⟩ := hrel
            have HBV := Lib.hid (HB2.out.st HL.out.bel)
            by_cases hlt : k < l.length
            · have hlt3 : (k : Int) < (l.length : Int) := by omega
              have hk0 : (0 : Int) ≤ (k : Int) := by omega
              obtain ⟨qb, qo, rfl, yv⟩ := HCS.out.2.2.at hlt
              have HQB := Lib.hid (show qb < w4.heap.size from Nat.lt_of_lt_of_le (World.block_lt_of_cell? _ _ yv) HQB4.out)
              have y0 := cell_later HBV.out yv
              have g0 := (HQ.out.go HBV.out).g0
              obtain ⟨na, nc, rfl, hce⟩ := Cel.of_owns HR.out
              clear hce
              generalize l[k] = x at *
              by_cases hx : nodeN n x
              · obtain ⟨s, rfl⟩ : ∃ s : Nat, x = s := ⟨x.toNat, by have := hx.1; omega⟩
                have hs : s < n := by have := hx.2; omega
                have s0 := hx.1
                have s1 := hx.2
                have HFM := Lib.hid (from_any ob hb sb kb n u s es R S po lb asked wr HL.out.or (HH.out.go HL.out.bel) HS3.out hs hu (by omega))
                clear hx
                go_upto_region 14 with (go_at_call 25; refine HFM.out.mono ?_; rintro e w5 hp5; (obtain ⟨d5, b5, rfl, hv5⟩ := hp5.val); (have HV5 := Lib.hid hv5); clear hp5 hv5)
                obtain ⟨xd, hxd, hc5, ho5, hf5⟩ := HV5.out
                have HX := Lib.hid (HFV.out dd HA4.out (s : Int) ⟨s0, s1⟩ xd hxd)
                have HL5 := Lib.hid (HL.out.step ho5 hf5)
                have HR5 := Lib.hid (owns_eqb HR.out (fun b e => hf5.block b (HR.out.lt b e).2 (fun e2 => by have := (HR.out.lt b e).1; have := HL.out.lts; have e3 : b = kb := e2; omega)))
                have HBV5 := Lib.hid (HB2.out.st HL5.out.bel)
                have y5 := cell_later HBV5.out yv
                have g5 := (HQ.out.go HBV5.out).g0
                have f0 := fun p => cell_ext p y5
                have f1 := fun p => cell_ext p g5
                have hxd' := Lib.hid hxd
                clear y0 g0 hxd ho5 hf5 HFM
                refine wp_region_ext (by kernel_rfl) (by kernel_rfl) ?_
                repeat (go_big_quiet_step (fail))
                refine wpQuiet_nil ?_
                rintro _ ⟨ps, rfl⟩
                have HBs := Lib.hid (below_ext w5 ps)
                generalize ext w5 ps = ws at HBs ⊢
                clear f0 f1
                have ys := cell_later HBs.out y5
                clear y5 g5
                rcases hc5 with ⟨hxl, rfl, rfl⟩ | ⟨hxg, rfl, rfl⟩
                · have hxg2 : ¬ 4611686018427387904 ≤ d5 := by omega
                  by_cases hm : (s : Int) ∈ asked
                  · have HAS := Lib.hid (refHas_any na nc asked (s : Int) ws (by omega) ((Cel_of_slice (hp_owns_go HR5.out HBs.out))))
                    rw [decide_eq_true hm] at HAS
                    have HL7 := Lib.hid (by have := HL5.out.go HBs.out; rwa [if_pos hm] at this : OrL w2 ws ob hb sb kb n u es lb fb dd w4.heap.size asked)
                    have k7 := row_at HL7.out.fr hdl hs
                    rw [HX.out] at k7
                    go_wp2_with (first | (go_at_call 27; refine HAS.out.mono ?_; rintro e w6 ⟨rfl, rfl⟩) | (go_at_call 26; refine (asked_any _ _ _ _ _ _ _ _ asked _ HL7.out.or).mono ?_; rintro e w8 ⟨rfl, rfl⟩))
                    go_roundg (l.length - (k + 1))
                    case measure => omega
                    case rel => exact ⟨k + 1, asked, by omega, Nat.le_refl _, by go_num, by omega, hp_owns_go HR5.out HBs.out, HL7.out⟩
                  · have HAS := Lib.hid (refHas_any na nc asked (s : Int) ws (by omega) ((Cel_of_slice (hp_owns_go HR5.out HBs.out))))
                    rw [decide_eq_false hm] at HAS
                    rw [if_neg hm] at HL5
                    go_wp2_with (first | (go_at_call 27; refine HAS.out.mono ?_; rintro e w6 ⟨rfl, rfl⟩) | ((at_builtin; go_must (refine wpList_app w4.heap.size 3 _ 1 8 elem_int Tryz.underlying25 _ asked.length (asked.map encI) ⟨ws.heap.size, 0, none⟩ 1 1 [.int .i64 (s : Int)] rfl rfl (World.ownsRow.alloc (hp_owns_go HR5.out HBs.out) _) (cell_one_new _ _ _) (one_cells rfl) ⟨rfl, by decide, (by omega), (by omega), (by have := HL5.out.sz; have := HBs.out.size; simp; omega)⟩ ?_); intro g6 cap6 w6 hown6 hgrow6 hbl6 hat6 hlt6; (have HO6 := Lib.hid hown6); (have HB6 := Lib.hid ((((Below.of_al ws _).mono (by have := HL5.out.sz; have := HBs.out.size; omega)).trans hbl6 : Below w4.heap.size ws w6))); (have HL6 := Lib.hid ((HL5.out.go HBs.out).goB HB6.out)); (have y6 := (World.cell?_of_block (a := ⟨qb, qo + k, none⟩) (HB6.out.block _ (by have := HQB.out; omega))).trans ys); (have k6 := row_at HL6.out.fr hdl hs); clear hown6 hgrow6 hbl6 hat6 hlt6); rw [HX.out] at k6) | (go_at_call 26; refine (asked_any _ _ _ _ _ _ _ _ (asked ++ [(s : Int)]) _ HL6.out.or).mono ?_; rintro e w8 ⟨rfl, rfl⟩))
                    go_roundg (l.length - (k + 1))
                    case measure => omega
                    case rel => exact ⟨k + 1, asked ++ [(s : Int)], by omega, Nat.le_refl _, by go_num, by rw [List.length_append]; show asked.length + 1 ≤ k + 1; omega, by rw [List.length_append, List.map_append]; exact HO6.out, HL6.out⟩
                · have hx0 := (show xd = 4611686018427387904 by have := hxd'.out.in; omega)
                  subst hx0
                  by_cases hm : (s : Int) ∈ asked
                  · have HAS := Lib.hid (refHas_any na nc asked (s : Int) ws (by omega) ((Cel_of_slice (hp_owns_go HR5.out HBs.out))))
                    rw [decide_eq_true hm] at HAS
                    have HL7 := Lib.hid (by have := HL5.out.go HBs.out; rwa [if_pos hm] at this : OrL w2 ws ob hb sb kb n u es lb fb dd w4.heap.size asked)
                    have k7 := row_at HL7.out.fr hdl hs
                    rw [HX.out] at k7
                    go_wp2_with (first | (go_at_call 27; refine HAS.out.mono ?_; rintro e w6 ⟨rfl, rfl⟩) | (go_at_call 26; refine (asked_any _ _ _ _ _ _ _ _ asked _ HL7.out.or).mono ?_; rintro e w8 ⟨rfl, rfl⟩))
                    go_roundg (l.length - (k + 1))
                    case measure => omega
                    case rel => exact ⟨k + 1, asked, by omega, Nat.le_refl _, by go_num, by omega, hp_owns_go HR5.out HBs.out, HL7.out⟩
                  · have HAS := Lib.hid (refHas_any na nc asked (s : Int) ws (by omega) ((Cel_of_slice (hp_owns_go HR5.out HBs.out))))
                    rw [decide_eq_false hm] at HAS
                    rw [if_neg hm] at HL5
                    go_wp2_with (first | (go_at_call 27; refine HAS.out.mono ?_; rintro e w6 ⟨rfl, rfl⟩) | ((at_builtin; go_must (refine wpList_app w4.heap.size 3 _ 1 8 elem_int Tryz.underlying25 _ asked.length (asked.map encI) ⟨ws.heap.size, 0, none⟩ 1 1 [.int .i64 (s : Int)] rfl rfl (World.ownsRow.alloc (hp_owns_go HR5.out HBs.out) _) (cell_one_new _ _ _) (one_cells rfl) ⟨rfl, by decide, (by omega), (by omega), (by have := HL5.out.sz; have := HBs.out.size; simp; omega)⟩ ?_); intro g6 cap6 w6 hown6 hgrow6 hbl6 hat6 hlt6; (have HO6 := Lib.hid hown6); (have HB6 := Lib.hid ((((Below.of_al ws _).mono (by have := HL5.out.sz; have := HBs.out.size; omega)).trans hbl6 : Below w4.heap.size ws w6))); (have HL6 := Lib.hid ((HL5.out.go HBs.out).goB HB6.out)); (have y6 := (World.cell?_of_block (a := ⟨qb, qo + k, none⟩) (HB6.out.block _ (by have := HQB.out; omega))).trans ys); (have k6 := row_at HL6.out.fr hdl hs); clear hown6 hgrow6 hbl6 hat6 hlt6); rw [HX.out] at k6) | (go_at_call 26; refine (asked_any _ _ _ _ _ _ _ _ (asked ++ [(s : Int)]) _ HL6.out.or).mono ?_; rintro e w8 ⟨rfl, rfl⟩))
                    go_roundg (l.length - (k + 1))
                    case measure => omega
                    case rel => exact ⟨k + 1, asked ++ [(s : Int)], by omega, Nat.le_refl _, by go_num, by rw [List.length_append]; show asked.length + 1 ≤ k + 1; omega, by rw [List.length_append, List.map_append]; exact HO6.out, HL6.out⟩
              · have HFM := Lib.hid (from_off ob hb sb kb n u x es R S po lb asked wr HL.out.or (HH.out.go HL.out.bel) hx)
                have hcase : (¬ 0 ≤ x ∧ decide (0 ≤ x) = false) ∨ (0 ≤ x ∧ decide (0 ≤ x) = true ∧ decide (x < (n : Int)) = false) := by
                  unfold nodeN at hx
                  by_cases h0 : 0 ≤ x
                  · exact .inr ⟨h0, decide_eq_true h0, decide_eq_false (by omega)⟩
                  · exact .inl ⟨h0, decide_eq_false h0⟩
                clear hx
                have f0 := fun p => cell_ext p y0
                have f1 := fun p => cell_ext p g0
                rcases hcase with ⟨h3, h4⟩ | ⟨h3, h4, h5⟩
                all_goals
                  go_upto_region 14 with (go_at_call 25; refine HFM.out.mono ?_; rintro e w5 ⟨rfl, rfl⟩)
                  refine wp_region_ext (by kernel_rfl) (by kernel_rfl) ?_
                  repeat (go_big_quiet_step (fail))
                  refine wpQuiet_nil ?_
                  rintro _ ⟨ps, rfl⟩
                  have HBs := Lib.hid (below_ext wr ps)
                  generalize ext wr ps = ws at HBs ⊢
                  have HL5 := Lib.hid (HL.out.go HBs.out)
                  go_wp2_with (go_at_call 26; refine (asked_any _ _ _ _ _ _ _ _ asked _ HL5.out.or).mono ?_; rintro e w8 ⟨rfl, rfl⟩)
                  go_roundg (l.length - (k + 1))
                  case measure => omega
                  case rel => exact ⟨k + 1, asked, by omega, Nat.le_refl _, by go_num, by omega, hp_owns_go HR.out HBs.out, HL5.out⟩
            · obtain rfl : k = l.length := by omega
              go_wp2_with (go_at_call 15; refine (HAL.out _).mono ?_; rintro e w6 ⟨rfl, hb6⟩; (have HB6 := Lib.hid hb6); clear hb6)
              go_ret
              exact ⟨rfl, HB.out.st (HBV.out.st HB6.out)⟩
        · have HTO := Lib.hid (to_off hb n es R S po t w2 HH.out ht)
          have hcase : t < 0 ∨ (¬ t < 0 ∧ (n : Int) ≤ t) := by unfold nodeN at ht; omega
          clear ht
          rcases hcase with h3 | ⟨h3, h4⟩
          all_goals
            go_wp2_with (first
              | (go_at_call 24; refine HTO.out.mono ?_; rintro e w3 ⟨rfl, hb3⟩; (have HB3 := Lib.hid (HB2.out.st hb3)); (have c0 := cell_later hb3 z0); clear hb3)
              | (go_at_call 25; refine (from_nil _ _).mono ?_; rintro e w4 ⟨rfl, rfl⟩)
              | (go_at_call 26; refine (asked_nil _).mono ?_; rintro e w5 ⟨rfl, rfl⟩)
              | (go_at_call 15; refine (HAL.out _).mono ?_; rintro e w6 ⟨rfl, hb6⟩; (have HB6 := Lib.hid (HB3.out.st hb6)); clear hb6))
            go_ret
            exact ⟨rfl, HB.out.st HB6.out⟩
      · have HE := Lib.hid e1
        have hk1 : (k1 != 0) = true := by simpa using e1
        have hk2 : (k1 == 0) = false := by simpa using e1
        clear e1
        go_enter Tryz.func4, Tryz.ntmps4
        go_upto_region 1 with (fail)
        rw [← HV.out]
        go_wp2_with (first
          | (go_at_call 14; refine HLI.out.mono ?_; rintro e w1 ⟨rfl, hb1⟩; (have HB1 := Lib.hid hb1); (obtain ⟨x0, x1, x2, x3, x4⟩ := HQ.out.go hb1); clear hb1)
          | (go_at_call 16; refine (HBA.out _ HB1.out).mono ?_; rintro e w2 hp2; (obtain ⟨rfl, hb2⟩ := hp2.nil HE.out); (have HB2 := Lib.hid (HB1.out.st hb2)); clear hb2 hp2)
          | (go_at_call 24; refine (to_nil _ _).mono ?_; rintro e w3 ⟨rfl, hb3⟩; (have HB3 := Lib.hid (HB2.out.st hb3)); clear hb3)
          | (go_at_call 25; refine (from_nil _ _).mono ?_; rintro e w4 ⟨rfl, rfl⟩)
          | (go_at_call 26; refine (asked_nil _).mono ?_; rintro e w5 ⟨rfl, rfl⟩)
          | (go_at_call 15; refine (HAL.out _).mono ?_; rintro e w6 ⟨rfl, hb6⟩; (have HB6 := Lib.hid (HB3.out.st hb6)); clear hb6))
        go_ret
        exact ⟨rfl, HB.out.st HB6.out⟩
end Go.Proofs.YtkdomobedfhhgaaGreat
end

section
namespace Go.Proofs.YtkdomobedfhhgaaGreat.queryOracles
open Go.ChangeShapes Go.WideShapes Go.ChangeAt Go.RowKit Go.Joins
open Go.ChangeMaps (open_string shut_string)
set_option linter.unusedVariables false

theorem own : ownKnob Tryz.prog.godebug = none := by kernel_rfl
theorem laidOut : laidOutB Tryz.prog = true := by kernel_rfl

set_option maxRecDepth 100000 in
set_option maxHeartbeats 1000000 in
theorem lifted (os : Os) (started : os.Started) (H : Type) (enc : TypeId × Value → H) :
    ReturnsInHanded {} Tryz.checked os 4 .any (Rows.queryOraclesSpec.pre6 enc Tryz.prog Tryz.f4 Rows.queryOraclesRow.domain false) (Rows.queryOraclesSpec.post enc Tryz.prog Tryz.f4 false true false false) := by
  refine returnsInHanded_of_change_sized (C := Tryz.checked) own started (by kernel_rfl) Tryz.func4
    (ChangeSpec.witness6 (enc := enc) (C := Tryz.checked) false ⟨#[], #[.agg #[.int .i64 0, .slice none 0 0], .agg #[.int .i64 0, .int .i64 0, .slice none 0 0], .int .i64 0, .slice none 0 0], []⟩ 8 (by kernel_rfl) (by kernel_rfl) (by kernel_rfl) (by kernel_rfl)) ?_
  intro W base args ds gs before hval0 hW _ hsz0 _
  have hsz : (DataW.weightsEach Tryz.prog (Tryz.f4.params.toList ++ Rows.queryOraclesSpec.plain.varTypes Tryz.prog) (ds ++ gs)).all (· ≤ reachBytes) = true := hsz0
  clear hsz0
  have hval : ∀ (j : Nat) t v, Tryz.f4.params[j]? = some t → args[j]? = some v → Value.okWide Tryz.prog W .any base t v := hval0
  have hW' := hW
  obtain ⟨p, q, hA0, hV, rfl, hfz, hnd⟩ := hW
  have hA : DataW.TrodAll enc Tryz.prog W 0 (fun _ => true) true Tryz.f4.params.toList args.toList ds p := hA0
  rw [Tryz.params4] at hA hval hsz
  obtain ⟨v0, vs0, d0, ds0, p0, q0, hargs, rfl, rfl, h0, r0⟩ := trodAll_cons hA
  obtain ⟨v1, vs1, d1, ds1, p1, q1, rfl, rfl, rfl, h1, r1⟩ := trodAll_cons r0
  obtain ⟨v2, vs2, d2, ds2, p2, q2, rfl, rfl, rfl, h2, r2⟩ := trodAll_cons r1
  obtain ⟨v3, vs3, d3, ds3, p3, q3, rfl, rfl, rfl, h3, r3⟩ := trodAll_cons r2
  obtain ⟨rfl, rfl, rfl⟩ := trodAll_nil r3
  obtain rfl : args = #[v0, v1, v2, v3] := by cases args; simp_all
  obtain ⟨rfl, rfl⟩ := trodVars_none hV
  have k0 := h0
  have lt0 : ∀ x ∈ p0, x.block < W.heap.size := by obtain ⟨m, hm⟩ := k0; exact DataW.trod_lt m _ _ _ hm
  have k1 := h1
  have lt1 : ∀ x ∈ p1, x.block < W.heap.size := by obtain ⟨m, hm⟩ := k1; exact DataW.trod_lt m _ _ _ hm
  have k2 := h2
  have lt2 : ∀ x ∈ p2, x.block < W.heap.size := by obtain ⟨m, hm⟩ := k2; exact DataW.trod_lt m _ _ _ hm
  have k3 := h3
  have lt3 : ∀ x ∈ p3, x.block < W.heap.size := by obtain ⟨m, hm⟩ := k3; exact DataW.trod_lt m _ _ _ hm
  obtain ⟨x0, y0, rx0, ry0, fu0, rfl, rfl, rfl, hx0, hy0⟩ := open_agg2 Tryz.underlying24 (by kernel_rfl) (by kernel_rfl) (hval 0 24 v0 rfl rfl) h0
  obtain ⟨ng, he0, _, gg⟩ := DataW.trod_int Tryz.underlying3 hx0
  simp only [List.cons.injEq, and_true] at he0
  subst he0
  have bg := wf_i64 gg
  obtain ⟨aog, capg, g, rfl, cg, lg, fg⟩ := rd_edges Tryz.underlying22 Tryz.underlying119 Tryz.underlying3 Tryz.underlying34 (by kernel_rfl) (by kernel_rfl) (by kernel_rfl) hy0
  obtain ⟨x1, y1, z1, rx1, ry1, rz1, fu1, rfl, rfl, rfl, hx1, hy1, hz1⟩ := open_agg3 Tryz.underlying27 (by kernel_rfl) (by kernel_rfl) (hval 1 27 v1 rfl rfl) h1
  obtain ⟨ha, hex1, _, gha⟩ := DataW.trod_int Tryz.underlying3 hx1
  simp only [List.cons.injEq, and_true] at hex1
  subst hex1
  have bha := wf_i64 gha
  obtain ⟨sa, hey1, _, gsa⟩ := DataW.trod_int Tryz.underlying3 hy1
  simp only [List.cons.injEq, and_true] at hey1
  subst hey1
  have bsa := wf_i64 gsa
  obtain ⟨aoa, capa, a, rfl, ca, na, fa⟩ := rd_ints Tryz.underlying25 Tryz.underlying3 (by kernel_rfl) hz1
  obtain ⟨t, rfl, rfl, rfl, y2⟩ := open_int Tryz.underlying3 (hval 2 3 v2 rfl rfl) h2
  have bt := wf_i64 y2
  obtain ⟨al, ll, ml, hv3⟩ := okWide_slice Tryz.underlying25 (hval 3 25 v3 rfl rfl)
  subst hv3
  obtain ⟨fu3, hf3⟩ := h3
  obtain ⟨aol, capl, l, hv3, cl, nl, fl⟩ := rd_ints Tryz.underlying25 Tryz.underlying3 (by kernel_rfl) (show DataW.trod enc Tryz.prog W 0 (fun _ => true) true fu3 25 [_] = _ from hf3)
  have ul := cap_ints Tryz.underlying25 (show DataW.trod enc Tryz.prog W 0 (fun _ => true) true fu3 25 [_] = _ from hf3)
  have xl := nil_ints Tryz.underlying25 (show DataW.trod enc Tryz.prog W 0 (fun _ => true) true fu3 25 [_] = _ from hf3)
  cases hv3
  clear hA0 hval0
  refine (QueryOracles_any ⟨ng, g⟩ aog capg ha sa aoa a capa t al l ml W cg ca cl).mono fun e W' ⟨he, bel⟩ => ?_
  subst he
  exact ⟨_, rfl, _, _, _, [], _, [], hW', trodAll_mk1 (shut_bool Tryz.underlying4 _), (trodAll_cons_mk (Below.trod laidOut (by kernel_rfl) (of_decide_eq_true (by kernel_rfl)) k0 bel lt0) (trodAll_cons_mk (Below.trod laidOut (by kernel_rfl) (of_decide_eq_true (by kernel_rfl)) k1 bel lt1) (trodAll_cons_mk (Below.trod laidOut (by kernel_rfl) (of_decide_eq_true (by kernel_rfl)) k2 bel lt2) (trodAll_cons_mk (Below.trod laidOut (by kernel_rfl) (of_decide_eq_true (by kernel_rfl)) k3 bel lt3) trodAll_mk0)))), rfl, bel.frame _, fun h => by cases h⟩

theorem over : Rows.queryOraclesRow.holds Tryz.pinned (OpenSpec.ofChange Rows.queryOraclesSpec) :=
  OpenClaim.holds_of_wide 4 Tryz.f4 rfl rfl rfl rfl rfl rfl rfl ⟨rfl, rfl, rfl, rfl, rfl⟩ rfl rfl rfl rfl rfl (by kernel_rfl) Tryz.func4 (by kernel_rfl)
    (of_decide_eq_true (by kernel_rfl)) (by unfold Func.isWrapper; first | (rw [if_pos (by decide +kernel)]; kernel_rfl) | (rw [if_neg (by decide +kernel)]; exact ⟨rfl, rfl⟩))
    (fun os started H enc _ => lifted os started H enc)

end Go.Proofs.YtkdomobedfhhgaaGreat.queryOracles
namespace Go.Proofs.YtkdomobedfhhgaaGreat
/-- The statement. -/
theorem queryOracles_holds : Rows.QueryOraclesSaid := queryOracles.over
#print axioms queryOracles_holds
end Go.Proofs.YtkdomobedfhhgaaGreat
end
