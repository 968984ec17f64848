/-
  Walk of package upward: the first shortcut by which a label is come to; which labels are exact.
-/
import Derived.Test.YtkdomobedfhhgaaGreatProg
import Derived.Test.YtkdomobedfhhgaaGreatQd02
import Derived.Test.YtkdomobedfhhgaaGreatQd04
set_option linter.unusedVariables false
set_option linter.unusedSimpArgs false
set_option linter.unnecessarySimpa false
namespace Go.Proofs.YtkdomobedfhhgaaGreat
open Go Go.Proofs Go.RowKit Go.Shelf Go.Proofs.YtkdomobedfhhgaaGreat.Hp Go.Proofs.YtkdomobedfhhgaaGreat.Ch

set_option maxRecDepth 100000 in
set_option maxHeartbeats 1000000 in
theorem exact1_any (x : LB) (B fb n : Nat) (f : List Int) (w : World) (hb : w.cell? ⟨B, 0, none⟩ = some (.slice (some ⟨fb, 0, none⟩) n n)) (hc : Cel w (some ⟨fb, 0, none⟩) (f.map encW)) (hl : f.length = n) (hv : nodeN n x.v) :
    Calls Tryz.prog 86 (#[encL x] ++ #[.pointer (some ⟨B, 0, none⟩)]) w fun e w' => e = .returned (.bool (decide (gD f x.v < x.d))) ∧ Below w.heap.size w w' := by
  obtain ⟨xv, xd, xb⟩ := x
  obtain ⟨v0, v1⟩ := hv
  simp only at v0 v1 ⊢
  obtain ⟨v, rfl⟩ : ∃ v : Nat, xv = v := ⟨xv.toNat, by omega⟩
  have hvl : v < n := by omega
  have hg : w.cell? ⟨fb, v, none⟩ = some (.int .u64 (gD f (v : Int))) := by
    obtain ⟨b, o, e, h1⟩ := hc v (.int .u64 (gD f (v : Int))) (by
      rw [List.getElem?_map, List.getElem?_eq_getElem (by omega)]
      unfold gD
      rw [Int.toNat_natCast, List.getD_eq_getElem?_getD, List.getElem?_eq_getElem (by omega)]
      rfl)
    cases e
    rw [Nat.zero_add] at h1
    exact h1
  generalize gD f (v : Int) = g at *
  obtain ⟨W, hW⟩ : ∃ W, W = w.alloc (Obj.cells #[.int .i64 (v : Int), .int .u64 xd, .int .i64 xb] 64) := ⟨_, rfl⟩
  have hbw : Below w.heap.size w W := by rw [hW]; exact Below.of_al _ _
  have c0 : W.cell? ⟨w.heap.size, 0, none⟩ = some (.int .i64 (v : Int)) := by rw [hW]; go_simp
  have c1 : W.cell? ⟨w.heap.size, 1, none⟩ = some (.int .u64 xd) := by rw [hW]; go_simp
  have e0 := fun p => cell_ext p c0
  have e1 := fun p => cell_ext p c1
  have cB := cell_later hbw hb
  have cG := cell_later hbw hg
  have e2 := fun p => cell_ext p cB
  have e3 := fun p => cell_ext p cG
  have HW := Lib.hid hW
  have HB := Lib.hid hbw
  unfold encL
  clear hW hbw hb hc hg hl
  go_enter Tryz.func86, Tryz.ntmps86
  go_upto_region 1 with (fail)
  rw [← HW.out]
  refine wp_region_ext (by kernel_rfl) (by kernel_rfl) ?_
  repeat (go_big_quiet_step (fail))
  refine wpQuiet_nil ?_
  rintro _ ⟨pq, rfl⟩
  have HBq := Lib.hid (below_ext W pq)
  generalize ext W pq = wq at HBq ⊢
  go_wp2
  go_ret
  exact ⟨rfl, HB.out.st HBq.out⟩

set_option maxRecDepth 100000 in
set_option maxHeartbeats 4000000 in
theorem first_any (hb n : Nat) (es : List EdgeD) (R : List Int) (S : List SC) (O I : List (List Int)) (l : List LB) (ao : Option Addr) (cap : Nat) (a : LB) (back : Bool) (w : World) (hh : HierM w hb n es R S O I) (hends : ∀ x ∈ S, nodeN n x.f ∧ nodeN n x.t ∧ 0 ≤ x.w ∧ x.w ≤ 1152921504606846976)
    (hc : Cel w ao (flatB l)) (hl : l.length ≤ 1000000) (hd : ∀ x ∈ l, 0 ≤ x.d ∧ x.d ≤ 1152921504606846976) :
    Calls Tryz.prog 87 #[.agg #[.pointer (some ⟨hb, 0, none⟩), .bool back], .slice ao l.length cap, encL a] w fun e w' => e = .returned (.int .i64 (firstS R S (labF l) back a.v a.d)) ∧ Below w.heap.size w w' := by
  obtain ⟨W, hW⟩ : ∃ W, W = (w.alloc (Obj.cells #[.pointer (some ⟨hb, 0, none⟩), .bool back] 137)).alloc (Obj.cells #[.int .i64 a.v, .int .u64 a.d, .int .i64 a.b] 64) := ⟨_, rfl⟩
  have hbw : Below w.heap.size w W := by rw [hW]; exact (Below.of_al _ _).al _
  have c0 : W.cell? ⟨w.heap.size, 0, none⟩ = some (.pointer (some ⟨hb, 0, none⟩)) := by rw [hW]; go_simp
  have c1 : W.cell? ⟨w.heap.size, 1, none⟩ = some (.bool back) := by rw [hW]; go_simp
  have c2 : W.cell? ⟨w.heap.size + 1, 0, none⟩ = some (.int .i64 a.v) := by rw [hW]; go_simp
  have c3 : W.cell? ⟨w.heap.size + 1, 1, none⟩ = some (.int .u64 a.d) := by rw [hW]; go_simp
  have HH := Lib.hid (hh.go hbw)
  have HC := Lib.hid (hc.go hbw)
  have HEN := Lib.hid hends
  have HD := Lib.hid hd
  have HSZ := Lib.hid (size_any hb n es R S O I W (hh.go hbw))
  have HW := Lib.hid hW
  have HB0 := Lib.hid hbw
  have hsl := hh.small.2.1
  have hsl2 : (S.length : Int) ≤ 1000000 := by omega
  obtain ⟨res, hres⟩ : ∃ res, res = firstS R S (labF l) back a.v a.d := ⟨_, rfl⟩
  have HRE := Lib.hid hres
  rw [← hres]
  unfold encL
  clear hh hc hends hd hW hbw hres
  go_enter Tryz.func87, Tryz.ntmps87
  go_upto_region 1 with (fail)
  rw [← HW.out]
  go_wp2_with (go_at_call 48; refine HSZ.out.mono ?_; rintro e w1 ⟨rfl, rfl⟩)
  go_loopg [17] S.length (fun gg v17 wr => ∃ k : Nat, k ≤ S.length ∧ S.length - k ≤ gg ∧ v17 = .int .i64 k ∧ Aside (Below W.heap.size W wr) ∧ Aside (∀ j (h : j < S.length), j < k → hitS R (labF l) back a.v a.d S[j] = false))
  case atStart => exact ⟨0, Nat.zero_le _, by omega, rfl, Below.refl _ _, fun j _ h => absurd h (Nat.not_lt_zero _)⟩
  case round =>
    obtain ⟨k, hk, hgg, rfl, HB, HN⟩ := hrel
    by_cases hlt : k < S.length
    · have hlt3 : (k : Int) < (S.length : Int) := by omega
      have hk0 : (0 : Int) ≤ (k : Int) := by omega
      have HS1 := Lib.hid (shortcut_any hb n es R S O I wr (HH.out.go HB.out) k hlt)
      obtain ⟨⟨p0, p1⟩, ⟨q0, q1⟩, w0, w1⟩ := HEN.out _ (List.getElem_mem hlt)
      have HHT := Lib.hid (fun h : hitS R (labF l) back a.v a.d S[k] = true => firstS_at hlt h (fun j hj => HN.out j (by omega) hj))
      have HHF := Lib.hid (fun h : hitS R (labF l) back a.v a.d S[k] = false => (fun j (h1 : j < S.length) (h2 : j < k + 1) => (by
        by_cases e : j = k
        · subst e; exact h
        · exact HN.out j h1 (by omega) : hitS R (labF l) back a.v a.d S[j] = false)))
      generalize S[k] = x at *
      obtain ⟨xf, xt, xw, xe, xa, xb⟩ := x
      simp only [scV] at p0 p1 q0 q1 w0 w1 HS1
      obtain ⟨fn, rfl⟩ : ∃ fn : Nat, xf = fn := ⟨xf.toNat, by omega⟩
      obtain ⟨tn, rfl⟩ : ∃ tn : Nat, xt = tn := ⟨xt.toNat, by omega⟩
      have hfn : fn < n := by omega
      have htn : tn < n := by omega
      have b0 := cell_later HB.out c0
      have b1 := cell_later HB.out c1
      have b2 := cell_later HB.out c2
      have b3 := cell_later HB.out c3
      go_upto_region 5 with (go_at_call 40; refine HS1.out.mono ?_; rintro e w2 ⟨rfl, hb2⟩; (have d0 := cell_later hb2 b0); (have d1 := cell_later hb2 b1); (have d2 := cell_later hb2 b2); (have d3 := cell_later hb2 b3); (have HB2 := Lib.hid (HB.out.st hb2)); clear hb2)
      obtain ⟨W5, hW5⟩ : ∃ W5, W5 = w2.alloc (Obj.cells #[.int .i64 (fn : Int), .int .i64 (tn : Int), .int .u64 xw, .int .i64 xe, .int .i64 xa, .int .i64 xb] 79) := ⟨_, rfl⟩
      rw [← hW5]
      have hb25 : Below w2.heap.size w2 W5 := by rw [hW5]; exact Below.of_al _ _
      have s0 : W5.cell? ⟨w2.heap.size, 0, none⟩ = some (.int .i64 (fn : Int)) := by rw [hW5]; go_simp
      have s1 : W5.cell? ⟨w2.heap.size, 1, none⟩ = some (.int .i64 (tn : Int)) := by rw [hW5]; go_simp
      have s2 : W5.cell? ⟨w2.heap.size, 2, none⟩ = some (.int .u64 xw) := by rw [hW5]; go_simp
      have HB5 := Lib.hid (HB2.out.st hb25)
      have g0 := cell_later hb25 d0
      have g1 := cell_later hb25 d1
      have g2 := cell_later hb25 d2
      have g3 := cell_later hb25 d3
      have x0 := fun p => cell_ext p s0
      have x1 := fun p => cell_ext p s1
      clear hb25 hW5 d0 d1 d2 d3 b0 b1 b2 b3 c0 c1 c2 c3 HS1 HSZ HW HN
      refine wp_region_ext (by kernel_rfl) (by kernel_rfl) ?_
      repeat (go_big_quiet_step (fail))
      refine wpQuiet_nil ?_
      rintro _ ⟨pa, rfl⟩
      have HBa := Lib.hid (below_ext W5 pa)
      generalize ext W5 pa = wa at HBa ⊢
      have r0 := cell_later HBa.out g0
      have r1 := cell_later HBa.out g1
      have r2 := cell_later HBa.out g2
      have r3 := cell_later HBa.out g3
      have r4 := cell_later HBa.out s2
      have HB6 := Lib.hid (HB5.out.st HBa.out)
      clear x0 x1 g0 g1 g2 g3 s0 s1 s2 HB5 HB2
      cases back with
      | false =>
        have HE := Lib.hid (show hitS R (labF l) false a.v a.d ⟨(fn : Int), (tn : Int), xw, xe, xa, xb⟩ = (decide ((tn : Int) = a.v) && decide (rAt R (fn : Int) < rAt R (tn : Int)) && (match labF l (fn : Int) with | some e => decide (e + xw = a.d) | none => false)) from rfl)
        have HR1 := Lib.hid (fun p => hrank_any hb n es R S O I (ext wa p) (HH.out.go (HB6.out.st (below_ext wa p))) fn hfn)
        have HR2 := Lib.hid (fun p => hrank_any hb n es R S O I (ext wa p) (HH.out.go (HB6.out.st (below_ext wa p))) tn htn)
        have HFI := Lib.hid (fun W' (hz : Below W.heap.size W W') => find_any l ao cap (fn : Int) W' (HC.out.go hz) hl)
        have HLN := Lib.hid (fun h => labIs_none (l := l) (u := (fn : Int)) h)
        have HLS := Lib.hid (fun h => labIs_some (l := l) (u := (fn : Int)) h)
        generalize rAt R (fn : Int) = rf at *
        generalize rAt R (tn : Int) = rt at *
        have y0 := fun p => cell_ext p r0
        have y2 := fun p => cell_ext p r2
        go_upto_region 8 with (fail)
        by_cases he : (tn : Int) = a.v
        · have hnb : ((tn : Int) != a.v) = false := by simp [he]
          by_cases hrk : rt ≤ rf
          · have HF2 := Lib.hid (HHF.out (by rw [HE.out, decide_eq_false (show ¬ rf < rt by omega), Bool.and_false, Bool.false_and]))
            clear HHT HHF HE HLN HLS HFI he
            refine wp_region_ext (by kernel_rfl) (by kernel_rfl) ?_
            repeat (go_big_quiet_step (first
              | (go_at_call_of 53 (#[.pointer (some ⟨hb, 0, none⟩), .int .i64 (fn : Int)] : Array Value); exact Calls.ext_of_same (HR1.out _))
              | (go_at_call_of 53 (#[.pointer (some ⟨hb, 0, none⟩), .int .i64 (tn : Int)] : Array Value); exact Calls.ext_of_same (HR2.out _))))
            refine wpQuiet_nil ?_
            rintro _ ⟨pc, rfl⟩
            have HBc := Lib.hid (below_ext wa pc)
            generalize ext wa pc = wc at HBc ⊢
            clear y0 y2 r0 r1 r2 r3 r4
            go_wp2
            go_roundg (S.length - (k + 1))
            case measure => omega
            case rel => exact ⟨k + 1, by omega, Nat.le_refl _, by go_num, HB6.out.st HBc.out, HF2.out⟩
          · have hd1 : decide (rf < rt) = true := decide_eq_true (by omega)
            have hd2 : decide ((tn : Int) = a.v) = true := decide_eq_true he
            rw [hd1, hd2, Bool.true_and, Bool.true_and] at HE
            clear hd1 hd2 he
            refine wp_region_ext (by kernel_rfl) (by kernel_rfl) ?_
            repeat (go_big_quiet_step (first
              | (go_at_call_of 53 (#[.pointer (some ⟨hb, 0, none⟩), .int .i64 (fn : Int)] : Array Value); exact Calls.ext_of_same (HR1.out _))
              | (go_at_call_of 53 (#[.pointer (some ⟨hb, 0, none⟩), .int .i64 (tn : Int)] : Array Value); exact Calls.ext_of_same (HR2.out _))))
            refine wpQuiet_nil ?_
            rintro _ ⟨pc, rfl⟩
            have HBc := Lib.hid (below_ext wa pc)
            generalize ext wa pc = wc at HBc ⊢
            have k3 := cell_later HBc.out r3
            have k4 := cell_later HBc.out r4
            have HBd := Lib.hid (HB6.out.st HBc.out)
            clear y0 y2 r0 r1 r2 r3 r4 hrk HR1 HR2
            cases hi : labIs l (fn : Int) with
            | false =>
              have HF2 := Lib.hid (HHF.out (by rw [HE.out, HLN.out hi]))
              rw [hi] at HFI
              clear HHT HHF HE HLN HLS hi
              generalize labAt l (fn : Int) = y at *
              obtain ⟨yv, yd, yb⟩ := y
              simp only [encL] at HFI
              go_wp2_with (go_at_call 31; refine (HFI.out _ HBd.out).mono ?_; rintro e w7 ⟨rfl, hb7⟩; (have HB7 := Lib.hid (HBd.out.st hb7)); clear hb7)
              go_roundg (S.length - (k + 1))
              case measure => omega
              case rel => exact ⟨k + 1, by omega, Nat.le_refl _, by go_num, HB7.out.st (Below.of_al _ _), HF2.out⟩
            | true =>
              obtain ⟨h1, h2, -⟩ := HLS.out hi
              rw [h1] at HE
              rw [hi] at HFI
              obtain ⟨e0, e1⟩ := HD.out _ h2
              clear HLN HLS h1 h2 hi
              generalize labAt l (fn : Int) = y at *
              obtain ⟨yv, yd, yb⟩ := y
              simp only [encL] at HFI
              simp only at e0 e1 HE
              by_cases hs : yd + xw = a.d
              · have HT2 := Lib.hid (HHT.out (by rw [HE.out]; exact decide_eq_true hs))
                clear HHT HHF HE
                have hsb : (yd + xw == a.d) = true := by simp [hs]
                clear hs
                go_wp2_with (go_at_call 31; refine (HFI.out _ HBd.out).mono ?_; rintro e w7 ⟨rfl, hb7⟩; (have HB7 := Lib.hid (HBd.out.st hb7)); (have k37 := cell_later hb7 k3); (have k47 := cell_later hb7 k4); (have j3 := cell_later (Below.of_al w7 (Obj.cells #[.int .i64 yv, .int .u64 yd, .int .i64 yb] 64)) k37); (have j4 := cell_later (Below.of_al w7 (Obj.cells #[.int .i64 yv, .int .u64 yd, .int .i64 yb] 64)) k47); clear hb7 k37 k47)
                go_ret
                exact ⟨by rw [HRE.out, HT2.out]; rfl, HB0.out.st (HB7.out.st (Below.of_al _ _))⟩
              · have HF2 := Lib.hid (HHF.out (by rw [HE.out]; exact decide_eq_false hs))
                clear HHT HHF HE
                have hsb : (yd + xw == a.d) = false := by simp [hs]
                clear hs
                go_wp2_with (go_at_call 31; refine (HFI.out _ HBd.out).mono ?_; rintro e w7 ⟨rfl, hb7⟩; (have HB7 := Lib.hid (HBd.out.st hb7)); (have k37 := cell_later hb7 k3); (have k47 := cell_later hb7 k4); (have j3 := cell_later (Below.of_al w7 (Obj.cells #[.int .i64 yv, .int .u64 yd, .int .i64 yb] 64)) k37); (have j4 := cell_later (Below.of_al w7 (Obj.cells #[.int .i64 yv, .int .u64 yd, .int .i64 yb] 64)) k47); clear hb7 k37 k47)
                go_roundg (S.length - (k + 1))
                case measure => omega
                case rel => exact ⟨k + 1, by omega, Nat.le_refl _, by go_num, HB7.out.st (Below.of_al _ _), HF2.out⟩
        · have hnb : ((tn : Int) != a.v) = true := by simp [he]
          have HF2 := Lib.hid (HHF.out (by rw [HE.out, decide_eq_false he, Bool.false_and, Bool.false_and]))
          clear HHT HHF HE HLN HLS HFI HR1 HR2
          refine wp_region_ext (by kernel_rfl) (by kernel_rfl) ?_
          repeat (go_big_quiet_step (fail))
          refine wpQuiet_nil ?_
          rintro _ ⟨pc, rfl⟩
          have HBc := Lib.hid (below_ext wa pc)
          generalize ext wa pc = wc at HBc ⊢
          clear y0 y2 r0 r1 r2 r3 r4
          go_wp2
          go_roundg (S.length - (k + 1))
          case measure => omega
          case rel => exact ⟨k + 1, by omega, Nat.le_refl _, by go_num, HB6.out.st HBc.out, HF2.out⟩
      | true =>
        have HE := Lib.hid (show hitS R (labF l) true a.v a.d ⟨(fn : Int), (tn : Int), xw, xe, xa, xb⟩ = (decide ((fn : Int) = a.v) && decide (rAt R (tn : Int) < rAt R (fn : Int)) && (match labF l (tn : Int) with | some e => decide (e + xw = a.d) | none => false)) from rfl)
        have HR1 := Lib.hid (fun p => hrank_any hb n es R S O I (ext wa p) (HH.out.go (HB6.out.st (below_ext wa p))) tn htn)
        have HR2 := Lib.hid (fun p => hrank_any hb n es R S O I (ext wa p) (HH.out.go (HB6.out.st (below_ext wa p))) fn hfn)
        have HFI := Lib.hid (fun W' (hz : Below W.heap.size W W') => find_any l ao cap (tn : Int) W' (HC.out.go hz) hl)
        have HLN := Lib.hid (fun h => labIs_none (l := l) (u := (tn : Int)) h)
        have HLS := Lib.hid (fun h => labIs_some (l := l) (u := (tn : Int)) h)
        generalize rAt R (tn : Int) = rf at *
        generalize rAt R (fn : Int) = rt at *
        have y0 := fun p => cell_ext p r0
        have y2 := fun p => cell_ext p r2
        go_upto_region 8 with (fail)
        by_cases he : (fn : Int) = a.v
        · have hnb : ((fn : Int) != a.v) = false := by simp [he]
          by_cases hrk : rt ≤ rf
          · have HF2 := Lib.hid (HHF.out (by rw [HE.out, decide_eq_false (show ¬ rf < rt by omega), Bool.and_false, Bool.false_and]))
            clear HHT HHF HE HLN HLS HFI he
            refine wp_region_ext (by kernel_rfl) (by kernel_rfl) ?_
            repeat (go_big_quiet_step (first
              | (go_at_call_of 53 (#[.pointer (some ⟨hb, 0, none⟩), .int .i64 (tn : Int)] : Array Value); exact Calls.ext_of_same (HR1.out _))
              | (go_at_call_of 53 (#[.pointer (some ⟨hb, 0, none⟩), .int .i64 (fn : Int)] : Array Value); exact Calls.ext_of_same (HR2.out _))))
            refine wpQuiet_nil ?_
            rintro _ ⟨pc, rfl⟩
            have HBc := Lib.hid (below_ext wa pc)
            generalize ext wa pc = wc at HBc ⊢
            clear y0 y2 r0 r1 r2 r3 r4
            go_wp2
            go_roundg (S.length - (k + 1))
            case measure => omega
            case rel => exact ⟨k + 1, by omega, Nat.le_refl _, by go_num, HB6.out.st HBc.out, HF2.out⟩
          · have hd1 : decide (rf < rt) = true := decide_eq_true (by omega)
            have hd2 : decide ((fn : Int) = a.v) = true := decide_eq_true he
            rw [hd1, hd2, Bool.true_and, Bool.true_and] at HE
            clear hd1 hd2 he
            refine wp_region_ext (by kernel_rfl) (by kernel_rfl) ?_
            repeat (go_big_quiet_step (first
              | (go_at_call_of 53 (#[.pointer (some ⟨hb, 0, none⟩), .int .i64 (tn : Int)] : Array Value); exact Calls.ext_of_same (HR1.out _))
              | (go_at_call_of 53 (#[.pointer (some ⟨hb, 0, none⟩), .int .i64 (fn : Int)] : Array Value); exact Calls.ext_of_same (HR2.out _))))
            refine wpQuiet_nil ?_
            rintro _ ⟨pc, rfl⟩
            have HBc := Lib.hid (below_ext wa pc)
            generalize ext wa pc = wc at HBc ⊢
            have k3 := cell_later HBc.out r3
            have k4 := cell_later HBc.out r4
            have HBd := Lib.hid (HB6.out.st HBc.out)
            clear y0 y2 r0 r1 r2 r3 r4 hrk HR1 HR2
            cases hi : labIs l (tn : Int) with
            | false =>
              have HF2 := Lib.hid (HHF.out (by rw [HE.out, HLN.out hi]))
              rw [hi] at HFI
              clear HHT HHF HE HLN HLS hi
              generalize labAt l (tn : Int) = y at *
              obtain ⟨yv, yd, yb⟩ := y
              simp only [encL] at HFI
              go_wp2_with (go_at_call 31; refine (HFI.out _ HBd.out).mono ?_; rintro e w7 ⟨rfl, hb7⟩; (have HB7 := Lib.hid (HBd.out.st hb7)); clear hb7)
              go_roundg (S.length - (k + 1))
              case measure => omega
              case rel => exact ⟨k + 1, by omega, Nat.le_refl _, by go_num, HB7.out.st (Below.of_al _ _), HF2.out⟩
            | true =>
              obtain ⟨h1, h2, -⟩ := HLS.out hi
              rw [h1] at HE
              rw [hi] at HFI
              obtain ⟨e0, e1⟩ := HD.out _ h2
              clear HLN HLS h1 h2 hi
              generalize labAt l (tn : Int) = y at *
              obtain ⟨yv, yd, yb⟩ := y
              simp only [encL] at HFI
              simp only at e0 e1 HE
              by_cases hs : yd + xw = a.d
              · have HT2 := Lib.hid (HHT.out (by rw [HE.out]; exact decide_eq_true hs))
                clear HHT HHF HE
                have hsb : (yd + xw == a.d) = true := by simp [hs]
                clear hs
                go_wp2_with (go_at_call 31; refine (HFI.out _ HBd.out).mono ?_; rintro e w7 ⟨rfl, hb7⟩; (have HB7 := Lib.hid (HBd.out.st hb7)); (have k37 := cell_later hb7 k3); (have k47 := cell_later hb7 k4); (have j3 := cell_later (Below.of_al w7 (Obj.cells #[.int .i64 yv, .int .u64 yd, .int .i64 yb] 64)) k37); (have j4 := cell_later (Below.of_al w7 (Obj.cells #[.int .i64 yv, .int .u64 yd, .int .i64 yb] 64)) k47); clear hb7 k37 k47)
                go_ret
                exact ⟨by rw [HRE.out, HT2.out]; rfl, HB0.out.st (HB7.out.st (Below.of_al _ _))⟩
              · have HF2 := Lib.hid (HHF.out (by rw [HE.out]; exact decide_eq_false hs))
                clear HHT HHF HE
                have hsb : (yd + xw == a.d) = false := by simp [hs]
                clear hs
                go_wp2_with (go_at_call 31; refine (HFI.out _ HBd.out).mono ?_; rintro e w7 ⟨rfl, hb7⟩; (have HB7 := Lib.hid (HBd.out.st hb7)); (have k37 := cell_later hb7 k3); (have k47 := cell_later hb7 k4); (have j3 := cell_later (Below.of_al w7 (Obj.cells #[.int .i64 yv, .int .u64 yd, .int .i64 yb] 64)) k37); (have j4 := cell_later (Below.of_al w7 (Obj.cells #[.int .i64 yv, .int .u64 yd, .int .i64 yb] 64)) k47); clear hb7 k37 k47)
                go_roundg (S.length - (k + 1))
                case measure => omega
                case rel => exact ⟨k + 1, by omega, Nat.le_refl _, by go_num, HB7.out.st (Below.of_al _ _), HF2.out⟩
        · have hnb : ((fn : Int) != a.v) = true := by simp [he]
          have HF2 := Lib.hid (HHF.out (by rw [HE.out, decide_eq_false he, Bool.false_and, Bool.false_and]))
          clear HHT HHF HE HLN HLS HFI HR1 HR2
          refine wp_region_ext (by kernel_rfl) (by kernel_rfl) ?_
          repeat (go_big_quiet_step (fail))
          refine wpQuiet_nil ?_
          rintro _ ⟨pc, rfl⟩
          have HBc := Lib.hid (below_ext wa pc)
          generalize ext wa pc = wc at HBc ⊢
          clear y0 y2 r0 r1 r2 r3 r4
          go_wp2
          go_roundg (S.length - (k + 1))
          case measure => omega
          case rel => exact ⟨k + 1, by omega, Nat.le_refl _, by go_num, HB6.out.st HBc.out, HF2.out⟩
    · obtain rfl : k = S.length := by omega
      have HE := Lib.hid (firstS_no (fun j h => HN.out j h h))
      go_wp2
      go_ret
      exact ⟨by rw [HRE.out, HE.out]; rfl, HB0.out.st HB.out⟩
end Go.Proofs.YtkdomobedfhhgaaGreat
