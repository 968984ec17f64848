/-
  Walk of the law TableRows.
-/
import Derived.Test.YtkdomobedfhhgaaGreatProg
import Derived.Test.YtkdomobedfhhgaaGreatRa09
import Derived.Test.YtkdomobedfhhgaaGreatRa10
set_option linter.unusedVariables false
set_option linter.unusedSimpArgs false
set_option linter.unnecessarySimpa false
namespace Go.Proofs.YtkdomobedfhhgaaGreat
open Go Go.Proofs Go.RowKit Go.Shelf Go.Proofs.YtkdomobedfhhgaaGreat.Hp Go.Proofs.YtkdomobedfhhgaaGreat.Ch Go.Proofs.YtkdomobedfhhgaaGreat.Ns

/-- what Near gives of a node that is none -/
theorem near_bad (hv : Value) (s k : Int) (lo : Option Addr) (lc : Nat) (l : List Int) (nn : Int) (w : World) (hk : k ≠ 0) (ho : ∀ W bx, Below w.heap.size w W → W.cell? ⟨bx, 0, none⟩ = some (.int .i64 s) → Calls Tryz.prog 38 #[hv, .slice (some ⟨bx, 0, none⟩) 1 1, .slice lo l.length lc] W fun e w' => e = .returned (.tuple #[.slice none 0 0, .int .i64 k]) ∧ Below W.heap.size W w') :
    Calls Tryz.prog 63 #[hv, .int .i64 s, .slice lo l.length lc, .int .i64 nn] w fun e w' => e = .returned (.tuple #[.slice none 0 0, .int .i64 k]) ∧ Below w.heap.size w w' := by
  have HO := Lib.hid ho
  have hne : (k != 0) = true := by simpa using hk
  clear ho hk
  go_enter Tryz.func63, Tryz.ntmps63
  go_upto_region 2 with (go_at_call 38; refine (HO.out _ _ (Below.of_al w _) (by go_simp)).mono ?_; rintro e w1 ⟨rfl, hb1⟩; (have HB1 := Lib.hid ((Below.of_al w _).st hb1)); clear hb1)
  have HB2 := Lib.hid (HB1.out.al (Obj.cells #[Value.slice none 0 0] 72))
  go_wp2
  refine bodyPost_ret (v := .tuple #[.slice none 0 0, .int .i64 k]) (by simp [results, Tryz.results63, go_sem]; try rfl) rfl ?_
  exact ⟨rfl, HB2.out⟩

def IntsV (l : List Int) (v : Value) (W : World) : Prop := ∃ ao cap, v = .slice ao l.length cap ∧ Cel W ao (l.map encI)
theorem IntsV.go {l : List Int} {v : Value} {W W' : World} (h : IntsV l v W) (hb : Below W.heap.size W W') : IntsV l v W' := let ⟨a, c, h1, h2⟩ := h; ⟨a, c, h1, h2.go hb⟩
/-- the region that asks why -/
def trR (gv fv tv : Value) (k f : Int) (l : List Int) : Nat → Value → World → Prop
  | 0, v, _ => v = .int .i64 k
  | 1, v, _ => v = gv
  | 2, v, _ => v = .int .i64 f
  | 3, v, _ => v = fv
  | 4, v, _ => v = tv
  | 5, v, W => IntsV l v W
  | 6, v, _ => v = .int .i64 k
  | 7, v, _ => v = .bool false
  | _, _, _ => True
theorem trR_go {gv fv tv : Value} {k f : Int} {l : List Int} : ∀ (i : Nat) (v : Value) (w w' : World), Below w.heap.size w w' → trR gv fv tv k f l i v w → trR gv fv tv k f l i v w'
  | 0, _, _, _, _, h | 1, _, _, _, _, h | 2, _, _, _, _, h | 3, _, _, _, _, h | 4, _, _, _, _, h | 6, _, _, _, _, h | 7, _, _, _, _, h => h
  | 5, _, _, _, hb, h => IntsV.go h hb
  | _ + 8, _, _, _, _, _ => trivial

/-- what is built, where no table is told -/
def BadOf (k : Int) (gv : Value) (fo too : Option Addr) (fc tc : Nat) (fr tl al : List Int) (w : World) (e : Ending) (w' : World) : Prop :=
  ∃ (hv : Value) (f : Int), e = .returned (.tuple #[hv, .int .i64 f]) ∧ Below w.heap.size w w' ∧
    (∀ W, Below w'.heap.size w' W → Calls Tryz.prog 38 #[hv, .slice fo fr.length fc, .slice too tl.length tc] W fun e w'' => e = .returned (.tuple #[.slice none 0 0, .int .i64 k]) ∧ Below W.heap.size W w'') ∧
    (∀ W ao cap, Cel W ao (al.map encI) → Calls Tryz.prog 44 #[gv, .int .i64 f, .slice ao al.length cap] W fun e w'' => e = .returned (.int .i64 k) ∧ Below W.heap.size W w'')

set_option maxRecDepth 100000 in
set_option maxHeartbeats 4000000 in
theorem rows_bad (k : Int) (g : GD) (ao : Option Addr) (cap : Nat) (h1 s1 : Int) (ro : Option Addr) (r : List Int) (rc : Nat) (fo : Option Addr) (fr : List Int) (fc : Nat) (too : Option Addr) (tl : List Int) (tc : Nat) (nn : Int) (w V : World) (hf : Cel w fo (fr.map encI)) (ht : Cel w too (tl.map encI))
    (hV : V = (w.alloc (Obj.cells #[.int .i64 g.n, .slice ao g.es.length cap] 24)).alloc (Obj.cells #[.int .i64 h1, .int .i64 s1, .slice ro r.length rc] 27)) (hl : light20 g.n g.es = true) (hr6 : ¬ (60 : Int) < (r.length : Int)) (hf6 : ¬ (20 : Int) < (fr.length : Int)) (ht6 : ¬ (20 : Int) < (tl.length : Int)) (hk : k ≠ 0)
    (HBD : ∀ W, Below V.heap.size V W → Calls Tryz.prog 16 #[.agg #[.int .i64 g.n, .slice ao g.es.length cap], .agg #[.int .i64 h1, .int .i64 s1, .slice ro r.length rc]] W (BadOf k (.agg #[.int .i64 g.n, .slice ao g.es.length cap]) fo too fc tc fr tl (fr ++ tl) W)) :
    Calls Tryz.prog 12 #[.agg #[.int .i64 g.n, .slice ao g.es.length cap], .agg #[.int .i64 h1, .int .i64 s1, .slice ro r.length rc], .slice fo fr.length fc, .slice too tl.length tc, .int .i64 nn] w fun e w' => e = .returned (.bool true) ∧ Below w.heap.size w w' := by
  have hbV : Below w.heap.size w V := by rw [hV]; exact (Below.of_al _ _).al _
  have HQ := Lib.hid (show QB1 V w.heap.size g ao cap h1 s1 ro r rc by rw [hV]; constructor <;> go_simp)
  have HAL := Lib.hid alive25_any
  have HLI := Lib.hid (light20_any g.n g.es ao cap V)
  rw [hl] at HLI
  have HB := Lib.hid hbV
  have HV := Lib.hid hV
  obtain ⟨p0, p1, p2, p3, p4⟩ := HQ.out
  have HJN := Lib.hid (fun W (hz : Below V.heap.size V W) => refJoin_any fo too fc tc fr tl W (by omega) (by omega) ((hf.go hbV).go hz) ((ht.go hbV).go hz))
  obtain ⟨al, hal⟩ : ∃ al, al = fr ++ tl := ⟨_, rfl⟩
  rw [← hal] at HJN HBD
  have hk1 : (k != 0) = true := by simpa using hk
  have HBD := Lib.hid HBD
  unfold BadOf at HBD
  clear hbV hV hf ht hl hk hal
  go_enter Tryz.func12, Tryz.ntmps12
  go_upto_region 1 with (fail)
  rw [← HV.out]
  go_upto_region 5 with (first
    | (go_at_call 14; refine HLI.out.mono ?_; rintro e w1 ⟨rfl, hb1⟩; (have HB1 := Lib.hid hb1); (obtain ⟨x0, x1, x2, x3, x4⟩ := HQ.out.go hb1); clear hb1)
    | (go_at_call 16; refine (HBD.out _ HB1.out).mono ?_; rintro e w2 ⟨hv, f, rfl, hb2, hof, hwy⟩; (have HB2 := Lib.hid (HB1.out.st hb2)); (have HOF := Lib.hid hof); (have HWY := Lib.hid hwy); (have z0 := cell_later hb2 x0); (have z1 := cell_later hb2 x1); clear hb2 hof hwy)
    | (go_at_call 38; refine (HOF.out _ (Below.refl _ _)).mono ?_; rintro e w3 ⟨rfl, hb3⟩; (have HB3 := Lib.hid (HB2.out.st hb3)); (have y0 := cell_later hb3 z0); (have y1 := cell_later hb3 z1); clear hb3))
  clear x0 x1 x2 x3 x4 p0 p1 p2 p3 p4 z0 z1
  refine wp_region_grows_act 8 rfl (trR (.agg #[.int .i64 g.n, .slice ao g.es.length cap]) (.slice fo fr.length fc) (.slice too tl.length tc) k f al) (by kernel_rfl) (by kernel_rfl) trR_go ?hop ?hend
  case hop =>
    refine ⟨?_, ?_, ?_, ?_, ?_, ?_, ?_, ?_, trivial⟩
    · intro act w' hbe hd ho K hK
      have g14 : act.tmps.getD 14 undef = .int .i64 k := ho 14 (by kernel_rfl)
      simp [Oper.wp, execOp, Oper.upon, go_sem, Act.eval, g14]
      exact hK _ w' (Below.refl _ _) rfl
    · intro act w' hbe hd ho K hK
      have g5 : act.tmps.getD 5 undef = .pointer (some ⟨w.heap.size, 0, none⟩) := ho 5 (by kernel_rfl)
      have f0 := cell_later hbe y0
      have f1 := cell_later hbe y1
      simp [Oper.wp, execOp, Oper.upon, go_sem, Act.eval, g5, f0, f1]
      exact hK _ w' (Below.refl _ _) rfl
    · intro act w' hbe hd ho K hK
      have g12 : act.tmps.getD 12 undef = .int .i64 f := ho 12 (by kernel_rfl)
      simp [Oper.wp, execOp, Oper.upon, go_sem, Act.eval, g12]
      exact hK _ w' (Below.refl _ _) rfl
    · intro act w' hbe hd ho K hK
      have g2 : act.tmps.getD 2 undef = (.slice fo fr.length fc) := ho 2 (by kernel_rfl)
      simp [Oper.wp, execOp, Oper.upon, go_sem, Act.eval, g2]
      exact hK _ w' (Below.refl _ _) rfl
    · intro act w' hbe hd ho K hK
      have g3 : act.tmps.getD 3 undef = (.slice too tl.length tc) := ho 3 (by kernel_rfl)
      simp [Oper.wp, execOp, Oper.upon, go_sem, Act.eval, g3]
      exact hK _ w' (Below.refl _ _) rfl
    · intro act w' hbe hd ho K hK
      have e3 : act.tmps.getD 56 undef = (.slice fo fr.length fc) := hd 3 (by rfl)
      have e4 : act.tmps.getD 57 undef = (.slice too tl.length tc) := hd 4 (by rfl)
      simp [Oper.wp, execOp, Oper.upon, go_sem, Act.eval, e3, e4]
      refine (HJN.out w' (HB3.out.st hbe)).mono ?_
      rintro e w6 ⟨a6, c6, rfl, h1, h3⟩
      exact hK _ w6 h3 ⟨a6, c6, rfl, h1⟩
    · intro act w' hbe hd ho K hK
      have e1 : act.tmps.getD 54 undef = (.agg #[.int .i64 g.n, .slice ao g.es.length cap]) := hd 1 (by rfl)
      have e2 : act.tmps.getD 55 undef = .int .i64 f := hd 2 (by rfl)
      obtain ⟨aj, cj, e5, hcj⟩ : IntsV al (act.tmps.getD 58 undef) w' := hd 5 (by rfl)
      simp [Oper.wp, execOp, Oper.upon, go_sem, Act.eval, e1, e2, e5]
      refine (HWY.out w' aj cj hcj).mono ?_
      rintro e w6 ⟨rfl, h3⟩
      exact hK _ w6 h3 rfl
    · intro act w' hbe hd ho K hK
      have e0 : act.tmps.getD 53 undef = .int .i64 k := hd 0 (by rfl)
      have e6 : act.tmps.getD 59 undef = .int .i64 k := hd 6 (by rfl)
      simp [Oper.wp, execOp, Oper.upon, go_sem, Act.eval, e0, e6]
      exact hK _ w' (Below.refl _ _) rfl
  intro vs w5 hb5 hR
  have HB5 := Lib.hid (HB3.out.st hb5)
  have HB35 := Lib.hid hb5
  have u0 := cell_later hb5 y0
  have u1 := cell_later hb5 y1
  have e7 : vs 7 = .bool false := hR 7 (by decide)
  simp only [puts, dstAt, List.getElem?_cons_zero, List.getElem?_cons_succ, Option.bind_some, Option.getD_some, Act.put, List.length_cons, List.length_nil, Nat.reduceAdd, List.setIfInBounds_toArray, List.set_cons_zero, List.set_cons_succ, e7]
  generalize vs 0 = q0 at *
  generalize vs 1 = q1 at *
  generalize vs 2 = q2 at *
  generalize vs 3 = q3 at *
  generalize vs 4 = q4 at *
  generalize vs 5 = q5 at *
  generalize vs 6 = q6 at *
  clear hR e7 hb5
  go_wp2_with (go_at_call 35; refine (HAL.out _).mono ?_; rintro e w6 ⟨rfl, hb6⟩; (have HB6 := Lib.hid (HB5.out.st hb6)); clear hb6)
  go_ret
  exact ⟨rfl, HB.out.st HB6.out⟩
/-- a row of the table against the reference's -/
def trS (av pv rv gv fv qv tv : Value) (i s : Int) (es : List EdgeD) (tl : List Int) : Nat → Value → World → Prop
  | 0, v, _ => v = av
  | 1, v, _ => v = .int .i64 i
  | 2, v, _ => v = pv
  | 3, v, _ => v = rv
  | 4, v, _ => v = gv
  | 5, v, _ => v = fv
  | 6, v, _ => v = .int .i64 i
  | 7, v, _ => v = qv
  | 8, v, _ => v = .int .i64 s
  | 9, v, _ => v = tv
  | 10, v, W => RowV es s tl v W
  | 11, v, _ => v = .bool true
  | 12, v, _ => v = .bool false
  | _, _, _ => True
theorem trS_go {av pv rv gv fv qv tv : Value} {i s : Int} {es : List EdgeD} {tl : List Int} : ∀ (k : Nat) (v : Value) (w w' : World), Below w.heap.size w w' → trS av pv rv gv fv qv tv i s es tl k v w → trS av pv rv gv fv qv tv i s es tl k v w'
  | 0, _, _, _, _, h | 1, _, _, _, _, h | 2, _, _, _, _, h | 3, _, _, _, _, h | 4, _, _, _, _, h | 5, _, _, _, _, h | 6, _, _, _, _, h | 7, _, _, _, _, h | 8, _, _, _, _, h | 9, _, _, _, _, h | 11, _, _, _, _, h | 12, _, _, _, _, h => h
  | 10, _, _, _, hb, h => RowV.go h hb
  | _ + 13, _, _, _, _, _ => trivial
/-- the nearest against the reference's -/
def trN (lv gv fv qv tv : Value) (i s nn : Int) (q : List Int) : Nat → Value → World → Prop
  | 0, v, _ => v = .int .i64 0
  | 1, v, _ => v = .bool false
  | 2, v, _ => v = .bool false
  | 3, v, _ => v = lv
  | 4, v, _ => v = gv
  | 5, v, _ => v = fv
  | 6, v, _ => v = .int .i64 i
  | 7, v, _ => v = qv
  | 8, v, _ => v = .int .i64 s
  | 9, v, _ => v = tv
  | 10, v, _ => v = .int .i64 nn
  | 11, v, W => IntsV q v W
  | 12, v, _ => v = .bool true
  | 13, v, _ => v = .bool false
  | 14, v, _ => v = .bool false
  | _, _, _ => True
theorem trN_go {lv gv fv qv tv : Value} {i s nn : Int} {q : List Int} : ∀ (k : Nat) (v : Value) (w w' : World), Below w.heap.size w w' → trN lv gv fv qv tv i s nn q k v w → trN lv gv fv qv tv i s nn q k v w'
  | 0, _, _, _, _, h | 1, _, _, _, _, h | 2, _, _, _, _, h | 3, _, _, _, _, h | 4, _, _, _, _, h | 5, _, _, _, _, h | 6, _, _, _, _, h | 7, _, _, _, _, h | 8, _, _, _, _, h | 9, _, _, _, _, h | 10, _, _, _, _, h | 12, _, _, _, _, h | 13, _, _, _, _, h | 14, _, _, _, _, h => h
  | 11, _, _, _, hb, h => IntsV.go h hb
  | _ + 15, _, _, _, _, _ => trivial

set_option maxRecDepth 100000 in
set_option maxHeartbeats 4000000 in
theorem TableRows_any (g : GD) (ao : Option Addr) (cap : Nat) (h1 s1 : Int) (ro : Option Addr) (r : List Int) (rc : Nat) (fo : Option Addr) (fr : List Int) (fc : Nat) (too : Option Addr) (tl : List Int) (tc : Nat) (nn : Int) (w : World) (hc : Cel w ao (flat g.es)) (hr : Cel w ro (r.map encI)) (hf : Cel w fo (fr.map encI)) (ht : Cel w too (tl.map encI)) :
    Calls Tryz.prog 12 #[.agg #[.int .i64 g.n, .slice ao g.es.length cap], .agg #[.int .i64 h1, .int .i64 s1, .slice ro r.length rc], .slice fo fr.length fc, .slice too tl.length tc, .int .i64 nn] w fun e w' => e = .returned (.bool true) ∧ Below w.heap.size w w' := by
  obtain ⟨V, hV⟩ : ∃ V, V = (w.alloc (Obj.cells #[.int .i64 g.n, .slice ao g.es.length cap] 24)).alloc (Obj.cells #[.int .i64 h1, .int .i64 s1, .slice ro r.length rc] 27) := ⟨_, rfl⟩
  have hbV : Below w.heap.size w V := by rw [hV]; exact (Below.of_al _ _).al _
  have HQ := Lib.hid (show QB1 V w.heap.size g ao cap h1 s1 ro r rc by rw [hV]; constructor <;> go_simp)
  have HAL := Lib.hid alive25_any
  have HLI := Lib.hid (light20_any g.n g.es ao cap V)
  have HB := Lib.hid hbV
  have HV := Lib.hid hV
  obtain ⟨p0, p1, p2, p3, p4⟩ := HQ.out
  have HCS := Lib.hid (And.intro (hc.go hbV) (hr.go hbV))
  have HFT := Lib.hid (And.intro (hf.go hbV) (ht.go hbV))
  clear hbV hV hc hr
  cases hl : light20 g.n g.es with
  | false =>
    rw [hl] at HLI
    clear hl
    go_enter Tryz.func12, Tryz.ntmps12
    go_upto_region 1 with (fail)
    rw [← HV.out]
    go_wp2_with (first
      | (go_at_call 14; refine HLI.out.mono ?_; rintro e w1 ⟨rfl, hb1⟩; (have HB1 := Lib.hid (HB.out.st hb1)); clear hb1)
      | (go_at_call 35; refine (HAL.out _).mono ?_; rintro e w2 ⟨rfl, hb2⟩; (have HB2 := Lib.hid (HB1.out.st hb2)); clear hb2))
    go_ret
    exact ⟨rfl, HB2.out⟩
  | true =>
    obtain ⟨hg, hes⟩ := light20_small hl
    have HG := Lib.hid hg
    rw [hl] at HLI
    clear hg
    by_cases hbad : (60 : Int) < (r.length : Int) ∨ (20 : Int) < (fr.length : Int) ∨ (20 : Int) < (tl.length : Int)
    · by_cases hr6 : (60 : Int) < (r.length : Int)
      · clear hbad
        go_enter Tryz.func12, Tryz.ntmps12
        go_upto_region 1 with (fail)
        rw [← HV.out]
        go_wp2_with (first
          | (go_at_call 14; refine HLI.out.mono ?_; rintro e w1 ⟨rfl, hb1⟩; (have HB1 := Lib.hid (HB.out.st hb1)); (have k4 := cell_later hb1 p4); clear hb1)
          | (go_at_call 35; refine (HAL.out _).mono ?_; rintro e w2 ⟨rfl, hb2⟩; (have HB2 := Lib.hid (HB1.out.st hb2)); clear hb2))
        go_ret
        exact ⟨rfl, HB2.out⟩
      · by_cases hf6 : (20 : Int) < (fr.length : Int)
        · clear hbad
          go_enter Tryz.func12, Tryz.ntmps12
          go_upto_region 1 with (fail)
          rw [← HV.out]
          go_wp2_with (first
            | (go_at_call 14; refine HLI.out.mono ?_; rintro e w1 ⟨rfl, hb1⟩; (have HB1 := Lib.hid (HB.out.st hb1)); (have k4 := cell_later hb1 p4); clear hb1)
            | (go_at_call 35; refine (HAL.out _).mono ?_; rintro e w2 ⟨rfl, hb2⟩; (have HB2 := Lib.hid (HB1.out.st hb2)); clear hb2))
          go_ret
          exact ⟨rfl, HB2.out⟩
        · have ht6 : (20 : Int) < (tl.length : Int) := by omega
          clear hbad
          go_enter Tryz.func12, Tryz.ntmps12
          go_upto_region 1 with (fail)
          rw [← HV.out]
          go_wp2_with (first
            | (go_at_call 14; refine HLI.out.mono ?_; rintro e w1 ⟨rfl, hb1⟩; (have HB1 := Lib.hid (HB.out.st hb1)); (have k4 := cell_later hb1 p4); clear hb1)
            | (go_at_call 35; refine (HAL.out _).mono ?_; rintro e w2 ⟨rfl, hb2⟩; (have HB2 := Lib.hid (HB1.out.st hb2)); clear hb2))
          go_ret
          exact ⟨rfl, HB2.out⟩
    · have hr6 : ¬ (60 : Int) < (r.length : Int) := by omega
      have hf6 : ¬ (20 : Int) < (fr.length : Int) := by omega
      have ht6 : ¬ (20 : Int) < (tl.length : Int) := by omega
      clear hbad
      have HBA := Lib.hid (fun W (hz : Below V.heap.size V W) => built_any g ao ro cap rc h1 s1 r W (HCS.out.1.go hz) (HCS.out.2.go hz) (fun k => by have := HG.out k; omega) (by omega) (by omega))
      have HZ := Lib.hid (fun k : buildB g h1 s1 r = 0 => build_right k)
      have HF20 := Lib.hid (show fr.length ≤ 20 ∧ tl.length ≤ 20 by omega)
      have HJN := Lib.hid (fun W (hz : Below V.heap.size V W) => refJoin_any fo too fc tc fr tl W (by omega) (by omega) (HFT.out.1.go hz) (HFT.out.2.go hz))
      generalize buildB g h1 s1 r = k1 at *
      by_cases e1 : k1 = 0
      · subst e1
        have hgz := HZ.out rfl
        have hn := HG.out hgz
        have hgn := right_n hgz
        obtain ⟨n, hnn⟩ : ∃ n : Nat, g.n = (n : Int) := ⟨g.n.toNat, by omega⟩
        obtain ⟨gn, es⟩ := g
        simp only at hnn hn hes
        subst hnn
        have hn12 : n ≤ 12 := by omega
        have hes40 : es.length ≤ 40 := by omega
        have HGZ := Lib.hid hgz
        clear hgz HZ
        cases hno : (fr ++ tl).any (outB n) with
        | true =>
          refine rows_bad 7 ⟨n, es⟩ ao cap h1 s1 ro r rc fo fr fc too tl tc nn w V hf ht HV.out hl hr6 hf6 ht6 (by decide) (fun W hz => (HBA.out W hz).mono ?_)
          intro e w2 hp2
          obtain ⟨hb, R, S, po, rfl, hbh, hb2⟩ := hp2.good rfl HGZ.out hn
          refine ⟨_, _, rfl, hb2, fun W' hz' => ?_, fun W' a' c' hc' => ?_⟩
          · exact of_off hb n es R S _ _ fr tl fo too fc tc W' ((show BH w2 hb n es R S po from hbh).go hz').mem (HFT.out.1.go ((hz.st hb2).st hz')) (HFT.out.2.go ((hz.st hb2).st hz')) (by omega) (by omega) hno
          · have := why_ok n ao es.length cap a' c' (fr ++ tl) W' hc' (by rw [List.length_append]; omega)
            rw [hno] at this
            exact this
        | false =>
          have hnod := outB_no.1 hno
          have hnf : ∀ v ∈ fr, nodeN n v := fun v hv => hnod v (List.mem_append.2 (.inl hv))
          have hnt : ∀ v ∈ tl, nodeN n v := fun v hv => hnod v (List.mem_append.2 (.inr hv))
          have HND := Lib.hid (And.intro hnf hnt)
          obtain ⟨al, hal⟩ : ∃ al, al = fr ++ tl := ⟨_, rfl⟩
          rw [← hal] at HJN hno
          have hall : al.length ≤ 1000000 := by rw [hal, List.length_append]; omega
          have HWY := Lib.hid (fun a' c' W' (hc' : Cel W' a' (al.map encI)) => why_ok n ao es.length cap a' c' al W' hc' hall)
          rw [hno] at HWY
          simp only [Bool.false_eq_true, if_false] at HWY
          have hf20 : (fr.length : Int) ≤ 20 := by omega
          have ht20 : (tl.length : Int) ≤ 20 := by omega
          clear hnod hnf hnt hno hal hall hl
          go_enter Tryz.func12, Tryz.ntmps12
          go_upto_region 1 with (fail)
          rw [← HV.out]
          go_upto_region 4 with (first
            | (go_at_call 14; refine HLI.out.mono ?_; rintro e w1 ⟨rfl, hb1⟩; (have HB1 := Lib.hid hb1); (obtain ⟨x0, x1, x2, x3, x4⟩ := HQ.out.go hb1); clear hb1)
            | (go_at_call 16; refine (HBA.out _ HB1.out).mono ?_; rintro e w2 hp2; (obtain ⟨hb, R, S, po, rfl, hbh, hb2⟩ := hp2.good rfl HGZ.out hn); (have HH := Lib.hid (show BH w2 hb n es R S po from hbh)); (have HB2 := Lib.hid (HB1.out.st hb2)); (have z0 := cell_later hb2 x0); (have z1 := cell_later hb2 x1); clear hb2 hp2 hbh))
          have hA1 : ∀ u v w, arcG es u v w → 1 ≤ w := (HH.out.ok.hierB false).pos
          have HOF := Lib.hid (of_any hb n es R S po fr tl fo too fc tc w2 HH.out (HFT.out.1.go HB2.out) (HFT.out.2.go HB2.out) (by omega) (by omega) HND.out.1 HND.out.2)
          have HNB := Lib.hid (fun W (hz : Below w2.heap.size w2 W) => near_bad (.pointer (some ⟨hb, 0, none⟩)) (-1) 7 too tc tl nn W (by decide) (fun W' bx hz' hx => of_off hb n es R S _ _ [-1] tl (some ⟨bx, 0, none⟩) too 1 tc W' (HH.out.go (hz.st hz')).mem (fun i u hu => by
            match i with
            | 0 => cases hu; exact ⟨bx, 0, rfl, hx⟩
            | i + 1 => simp at hu) (HFT.out.2.go (HB2.out.st (hz.st hz'))) (by simp) (by omega) (by simp [outB])))
          have HNR := Lib.hid (fun W s (hz : Below w2.heap.size w2 W) hs => near_any hb n es R S po too tc s nn tl W (HH.out.go hz) (HFT.out.2.go (HB2.out.st hz)) (by omega) hs HND.out.2)
          have HRW := Lib.hid (fun W s (hz : Below w2.heap.size w2 W) hs => refRow_any n s es ao cap too tc tl W HGZ.out hn12 hes40 hs (HCS.out.1.go (HB2.out.st hz)) (HFT.out.2.go (HB2.out.st hz)) (by omega) HND.out.2 hA1)
          have HRN := Lib.hid (fun W s L hL (hz : Below w2.heap.size w2 W) hs => refNear_any n s es ao cap too tc tl nn W HGZ.out hn12 hes40 hs (HCS.out.1.go (HB2.out.st hz)) (HFT.out.2.go (HB2.out.st hz)) (by omega) HND.out.2 hA1 L hL)
          unfold NearPost at HNR
          unfold RowOut at HRW
          unfold RefNearPost at HRN
          clear x0 x1 x2 x3 x4 p0 p1 p2 p3 p4 hA1 HBA HQ HLI
          go_upto_region 5 with (go_at_call 38; refine HOF.out.mono ?_; rintro e w3 hof; obtain ⟨bo, bc, rfl, k1, k4⟩ := of_rows hof; (have HR1 := Lib.hid k1); (have HB3' := Lib.hid k4); (have HB3 := Lib.hid (HB2.out.st k4)); (have y0 := cell_later k4 z0); (have y1 := cell_later k4 z1); clear hof k1 k4)
          refine wp_region_grows_act 8 rfl (trR (.agg #[.int .i64 (n : Int), .slice ao es.length cap]) (.slice fo fr.length fc) (.slice too tl.length tc) (0 : Int) (0 : Int) al) (by kernel_rfl) (by kernel_rfl) trR_go ?hop ?hend
          case hop =>
            refine ⟨?_, ?_, ?_, ?_, ?_, ?_, ?_, ?_, trivial⟩
            · intro act w' hbe hd ho K hK
              have g14 : act.tmps.getD 14 undef = .int .i64 (0 : Int) := ho 14 (by kernel_rfl)
              simp [Oper.wp, execOp, Oper.upon, go_sem, Act.eval, g14]
              exact hK _ w' (Below.refl _ _) rfl
            · intro act w' hbe hd ho K hK
              have g5 : act.tmps.getD 5 undef = .pointer (some ⟨w.heap.size, 0, none⟩) := ho 5 (by kernel_rfl)
              have f0 := cell_later hbe y0
              have f1 := cell_later hbe y1
              simp [Oper.wp, execOp, Oper.upon, go_sem, Act.eval, g5, f0, f1]
              exact hK _ w' (Below.refl _ _) rfl
            · intro act w' hbe hd ho K hK
              have g12 : act.tmps.getD 12 undef = .int .i64 (0 : Int) := ho 12 (by kernel_rfl)
              simp [Oper.wp, execOp, Oper.upon, go_sem, Act.eval, g12]
              exact hK _ w' (Below.refl _ _) rfl
            · intro act w' hbe hd ho K hK
              have g2 : act.tmps.getD 2 undef = (.slice fo fr.length fc) := ho 2 (by kernel_rfl)
              simp [Oper.wp, execOp, Oper.upon, go_sem, Act.eval, g2]
              exact hK _ w' (Below.refl _ _) rfl
            · intro act w' hbe hd ho K hK
              have g3 : act.tmps.getD 3 undef = (.slice too tl.length tc) := ho 3 (by kernel_rfl)
              simp [Oper.wp, execOp, Oper.upon, go_sem, Act.eval, g3]
              exact hK _ w' (Below.refl _ _) rfl
            · intro act w' hbe hd ho K hK
              have e3 : act.tmps.getD 56 undef = (.slice fo fr.length fc) := hd 3 (by rfl)
              have e4 : act.tmps.getD 57 undef = (.slice too tl.length tc) := hd 4 (by rfl)
              simp [Oper.wp, execOp, Oper.upon, go_sem, Act.eval, e3, e4]
              refine (HJN.out w' (HB3.out.st hbe)).mono ?_
              rintro e w6 ⟨a6, c6, rfl, h1, h3⟩
              exact hK _ w6 h3 ⟨a6, c6, rfl, h1⟩
            · intro act w' hbe hd ho K hK
              have e1 : act.tmps.getD 54 undef = (.agg #[.int .i64 (n : Int), .slice ao es.length cap]) := hd 1 (by rfl)
              have e2 : act.tmps.getD 55 undef = .int .i64 (0 : Int) := hd 2 (by rfl)
              obtain ⟨aj, cj, e5, hcj⟩ : IntsV al (act.tmps.getD 58 undef) w' := hd 5 (by rfl)
              simp [Oper.wp, execOp, Oper.upon, go_sem, Act.eval, e1, e2, e5]
              refine (HWY.out aj cj w' hcj).mono ?_
              rintro e w6 ⟨rfl, h3⟩
              exact hK _ w6 h3 rfl
            · intro act w' hbe hd ho K hK
              have e0 : act.tmps.getD 53 undef = .int .i64 (0 : Int) := hd 0 (by rfl)
              have e6 : act.tmps.getD 59 undef = .int .i64 (0 : Int) := hd 6 (by rfl)
              simp [Oper.wp, execOp, Oper.upon, go_sem, Act.eval, e0, e6]
              exact hK _ w' (Below.refl _ _) rfl
          intro vs w5 hb5 hR
          have HB5 := Lib.hid (HB3.out.st hb5)
          have HB35 := Lib.hid hb5
          have u0 := cell_later hb5 y0
          have u1 := cell_later hb5 y1
          have e7 : vs 7 = .bool false := hR 7 (by decide)
          simp only [puts, dstAt, List.getElem?_cons_zero, List.getElem?_cons_succ, Option.bind_some, Option.getD_some, Act.put, List.length_cons, List.length_nil, Nat.reduceAdd, List.setIfInBounds_toArray, List.set_cons_zero, List.set_cons_succ, e7]
          generalize vs 0 = q0 at *
          generalize vs 1 = q1 at *
          generalize vs 2 = q2 at *
          generalize vs 3 = q3 at *
          generalize vs 4 = q4 at *
          generalize vs 5 = q5 at *
          generalize vs 6 = q6 at *
          clear hR e7 hb5
          have HB25 := Lib.hid (HB3'.out.st HB35.out)
          go_wp2
          go_loopg [15] fr.length (fun gg v15 wr => ∃ i : Nat, i ≤ fr.length ∧ fr.length - i ≤ gg ∧ v15 = .int .i64 (i : Int) ∧ Aside (Below w5.heap.size w5 wr))
          case atStart => exact ⟨0, Nat.zero_le _, by omega, rfl, Below.refl _ _⟩
          case round =>
            obtain ⟨i, hi, hgg, rfl, HBW⟩ := hrel
            have HBR := Lib.hid (HB25.out.st HBW)
            by_cases hlt : i < fr.length
            · have hlt3 : (i : Int) < (fr.length : Int) := by omega
              have hi0 : (0 : Int) ≤ (i : Int) := by omega
              obtain ⟨b, o, D, hbo, c0, hrow⟩ := HR1.out i hlt
              have HBO := Lib.hid hbo
              obtain ⟨fb, fof, hfo, f0⟩ := (HFT.out.1.go (HB2.out.st HBR.out)).at hlt
              have hnd := HND.out.1 _ (List.getElem_mem hlt)
              obtain ⟨s, hss⟩ : ∃ s : Nat, fr[i] = (s : Int) := ⟨fr[i].toNat, by have := hnd.1; omega⟩
              have hsn : s < n := by have := hnd.2; omega
              have HSN := Lib.hid hnd
              rw [hss] at f0 hrow HSN
              have HCD := Lib.hid (show Cel w3 (some ⟨D, 0, none⟩) ((tl.map (distV es (s : Int))).map encW) from fun j u hu => by
                have hj : j < tl.length := by
                  have := (List.getElem?_eq_some_iff.1 hu).1
                  simpa using this
                rw [List.getElem?_map, List.getElem?_map, List.getElem?_eq_getElem hj] at hu
                cases hu
                refine ⟨D, 0, rfl, ?_⟩
                rw [Nat.zero_add]
                exact (hrow j hj).1)
              have c1 := cell_later (HB35.out.st HBW) c0
              have v0 := cell_later HBW u0
              have v1 := cell_later HBW u1
              have HSW := Lib.hid (fun (a : Option Addr) (c : Nat) W (hz : Below wr.heap.size wr W) (ha : Cel W a ((tl.map (distV es (s : Int))).map encW)) => sameWide_any (some ⟨D, 0, none⟩) a tl.length c (tl.map (distV es (s : Int))) (tl.map (distV es (s : Int))) W (by rw [List.length_map]; omega) (by rw [List.length_map]; omega) ((HCD.out.go (HB35.out.st HBW)).go hz) ha)
              simp only [List.length_map, decide_true] at HSW
              have HNS := Lib.hid (fun W (hz : Below wr.heap.size wr W) => HNR.out W (s : Int) (HBR.out.st hz) HSN.out)
              have HRS := Lib.hid (fun W (hz : Below wr.heap.size wr W) => HRW.out W s (HBR.out.st hz) hsn)
              have HNQ := Lib.hid (fun W L hL (hz : Below wr.heap.size wr W) => HRN.out W s L hL (HBR.out.st hz) hsn)
              have hbo := HBO.out
              subst hbo hfo
              clear hrow hnd hss c0 hsn
              go_upto_region 14 with (fail)
              refine wp_region_grows_act 13 rfl (trS (.slice (some ⟨b, o, none⟩) fr.length bc) (.pointer (some ⟨b, o + i, none⟩)) (.slice (some ⟨D, 0, none⟩) tl.length tl.length) (.agg #[.int .i64 (n : Int), .slice ao es.length cap]) (.slice (some ⟨fb, fof, none⟩) fr.length fc) (.pointer (some ⟨fb, fof + i, none⟩)) (.slice too tl.length tc) (i : Int) (s : Int) es tl) (by kernel_rfl) (by kernel_rfl) trS_go ?hop2 ?hend2
              case hop2 =>
                refine ⟨?_, ?_, ?_, ?_, ?_, ?_, ?_, ?_, ?_, ?_, ?_, ?_, ?_, trivial⟩
                · intro act w' hbe hd ho K hK
                  have g : act.tmps.getD 13 undef = .slice (some ⟨b, o, none⟩) fr.length bc := ho 13 (by kernel_rfl)
                  simp [Oper.wp, execOp, Oper.upon, go_sem, Act.eval, g]
                  exact hK _ w' (Below.refl _ _) rfl
                · intro act w' hbe hd ho K hK
                  have g : act.tmps.getD 15 undef = .int .i64 (i : Int) := ho 15 (by kernel_rfl)
                  simp [Oper.wp, execOp, Oper.upon, go_sem, Act.eval, g]
                  exact hK _ w' (Below.refl _ _) rfl
                · intro act w' hbe hd ho K hK
                  have e0 : act.tmps.getD 80 undef = .slice (some ⟨b, o, none⟩) fr.length bc := hd 0 (by rfl)
                  have e1 : act.tmps.getD 81 undef = .int .i64 (i : Int) := hd 1 (by rfl)
                  simp [Oper.wp, execOp, Oper.upon, go_sem, Act.eval, e0, e1, hlt]
                  exact hK _ w' (Below.refl _ _) rfl
                · intro act w' hbe hd ho K hK
                  have e2 : act.tmps.getD 82 undef = .pointer (some ⟨b, o + i, none⟩) := hd 2 (by rfl)
                  have q := cell_later hbe c1
                  simp [Oper.wp, execOp, Oper.upon, go_sem, Act.eval, e2, q]
                  exact hK _ w' (Below.refl _ _) rfl
                · intro act w' hbe hd ho K hK
                  have g : act.tmps.getD 5 undef = .pointer (some ⟨w.heap.size, 0, none⟩) := ho 5 (by kernel_rfl)
                  have q0 := cell_later hbe v0
                  have q1 := cell_later hbe v1
                  simp [Oper.wp, execOp, Oper.upon, go_sem, Act.eval, g, q0, q1]
                  exact hK _ w' (Below.refl _ _) rfl
                · intro act w' hbe hd ho K hK
                  have g : act.tmps.getD 2 undef = .slice (some ⟨fb, fof, none⟩) fr.length fc := ho 2 (by kernel_rfl)
                  simp [Oper.wp, execOp, Oper.upon, go_sem, Act.eval, g]
                  exact hK _ w' (Below.refl _ _) rfl
                · intro act w' hbe hd ho K hK
                  have g : act.tmps.getD 15 undef = .int .i64 (i : Int) := ho 15 (by kernel_rfl)
                  simp [Oper.wp, execOp, Oper.upon, go_sem, Act.eval, g]
                  exact hK _ w' (Below.refl _ _) rfl
                · intro act w' hbe hd ho K hK
                  have e0 : act.tmps.getD 85 undef = .slice (some ⟨fb, fof, none⟩) fr.length fc := hd 5 (by rfl)
                  have e1 : act.tmps.getD 86 undef = .int .i64 (i : Int) := hd 6 (by rfl)
                  simp [Oper.wp, execOp, Oper.upon, go_sem, Act.eval, e0, e1, hlt]
                  exact hK _ w' (Below.refl _ _) rfl
                · intro act w' hbe hd ho K hK
                  have e2 : act.tmps.getD 87 undef = .pointer (some ⟨fb, fof + i, none⟩) := hd 7 (by rfl)
                  have q := cell_later hbe f0
                  simp [Oper.wp, execOp, Oper.upon, go_sem, Act.eval, e2, q]
                  exact hK _ w' (Below.refl _ _) rfl
                · intro act w' hbe hd ho K hK
                  have g : act.tmps.getD 3 undef = .slice too tl.length tc := ho 3 (by kernel_rfl)
                  simp [Oper.wp, execOp, Oper.upon, go_sem, Act.eval, g]
                  exact hK _ w' (Below.refl _ _) rfl
                · intro act w' hbe hd ho K hK
                  have e0 : act.tmps.getD 84 undef = .agg #[.int .i64 (n : Int), .slice ao es.length cap] := hd 4 (by rfl)
                  have e1 : act.tmps.getD 88 undef = .int .i64 (s : Int) := hd 8 (by rfl)
                  have e2 : act.tmps.getD 89 undef = .slice too tl.length tc := hd 9 (by rfl)
                  simp [Oper.wp, execOp, Oper.upon, go_sem, Act.eval, e0, e1, e2]
                  refine (HRS.out w' hbe).mono ?_
                  rintro e w6 ⟨a6, c6, rfl, k1, k2, k3⟩
                  exact hK _ w6 k3 ⟨a6, c6, rfl, k1⟩
                · intro act w' hbe hd ho K hK
                  have e0 : act.tmps.getD 83 undef = .slice (some ⟨D, 0, none⟩) tl.length tl.length := hd 3 (by rfl)
                  obtain ⟨a6, c6, e1, hu⟩ : RowV es (s : Int) tl (act.tmps.getD 90 undef) w' := hd 10 (by rfl)
                  simp [Oper.wp, execOp, Oper.upon, go_sem, Act.eval, e0, e1]
                  refine (HSW.out a6 c6 w' hbe hu).mono ?_
                  rintro e w6 ⟨rfl, nq, rfl⟩
                  exact hK _ _ (Below.of_dr _ _) rfl
                · intro act w' hbe hd ho K hK
                  have e0 : act.tmps.getD 91 undef = .bool true := hd 11 (by rfl)
                  simp [Oper.wp, execOp, Oper.upon, go_sem, Act.eval, e0]
                  exact hK _ w' (Below.refl _ _) rfl
              intro vs w6 hb6 hR
              have e12 : vs 12 = .bool false := hR 12 (by decide)
              simp only [puts, dstAt, List.getElem?_cons_zero, List.getElem?_cons_succ, Option.bind_some, Option.getD_some, Act.put, List.length_cons, List.length_nil, Nat.reduceAdd, List.setIfInBounds_toArray, List.set_cons_zero, List.set_cons_succ, e12]
              clear hR e12
              generalize vs 0 = q0
              generalize vs 1 = q1
              generalize vs 2 = q2
              generalize vs 3 = q3
              generalize vs 4 = q4
              generalize vs 5 = q5
              generalize vs 6 = q6
              generalize vs 7 = q7
              generalize vs 8 = q8
              generalize vs 9 = q9
              generalize vs 10 = q10
              generalize vs 11 = q11
              have HB6 := Lib.hid hb6
              have f6 := cell_later hb6 f0
              clear hb6 vs c1 f0
              go_upto_region 17 with (go_at_call 63; refine (HNS.out _ HB6.out).mono ?_; rintro e w7 ⟨L, la, k, hL, hk, rfl, hcl, hb7⟩; (have HB7 := Lib.hid (HB6.out.st hb7)); (have HL := Lib.hid hL); (have HCL := Lib.hid hcl); (have f7 := cell_later hb7 f6); clear hb7 hL hcl f6)
              have hkl : (L.take k).length = k := by rw [List.length_take]; omega
              have hk20 : k ≤ 20 := by
                have h1 := HL.out.1.length_eq
                have h2 := plc_len 4611686018427387904 (tl.map (distV es (s : Int))) (tl.map (distV es (s : Int))).length
                rw [List.length_map] at h1 h2
                omega
              have HSM := Lib.hid (fun (a : Option Addr) (c : Nat) W (hz : Below w7.heap.size w7 W) (ha : Cel W a ((L.take k).map encI)) => sameInts_any la a k c (L.take k) (L.take k) W (by rw [hkl]; omega) (by rw [hkl]; omega) (HCL.out.go hz) ha)
              simp only [hkl, decide_true] at HSM
              have HRF := Lib.hid (fun W (hz : Below w7.heap.size w7 W) => (HNQ.out W L HL.out (HB7.out.st hz)).mono (R' := fun e w' => ∃ a c, e = .returned (.slice a k c) ∧ Cel w' a ((L.take k).map encI) ∧ Below W.heap.size W w') (by
                rintro e w' ⟨a, k', c, h1, rfl, h2, h3⟩
                obtain rfl : k' = k := by omega
                exact ⟨a, c, rfl, h2, h3⟩))
              have HKL := Lib.hid hkl
              have v7 := cell_later HB7.out v0
              have v8 := cell_later HB7.out v1
              clear hkl hk
              generalize L.take k = q at *
              refine wp_region_grows_g 15 rfl (trN (.slice la k k) (.agg #[.int .i64 (n : Int), .slice ao es.length cap]) (.slice (some ⟨fb, fof, none⟩) fr.length fc) (.pointer (some ⟨fb, fof + i, none⟩)) (.slice too tl.length tc) (i : Int) (s : Int) nn q) (by kernel_rfl) (by kernel_rfl) trN_go ?hop3 ?hend3
              case hop3 =>
                refine ⟨?_, ?_, ?_, ?_, ?_, ?_, ?_, ?_, ?_, ?_, ?_, ?_, ?_, ?_, ?_, trivial⟩
                · intro act w' hbe hd ho K hK
                  have g : act.tmps.getD 17 undef = .int .i64 0 := ho 17 (by kernel_rfl)
                  refine .inl ⟨goes_free rfl, ?_⟩
                  simp [Oper.wp, execOp, Oper.upon, go_sem, Act.eval, g]
                  exact hK _ w' (Below.refl _ _) rfl
                · intro act w' hbe hd ho K hK
                  have e0 : act.tmps.getD 104 undef = .int .i64 0 := hd 0 (by rfl)
                  refine .inl ⟨goes_free rfl, ?_⟩
                  simp [Oper.wp, execOp, Oper.upon, go_sem, Act.eval, e0]
                  exact hK _ w' (Below.refl _ _) rfl
                · intro act w' hbe hd ho K hK
                  have e0 : act.tmps.getD 105 undef = .bool false := hd 1 (by rfl)
                  refine .inl ⟨goes_free rfl, ?_⟩
                  simp [Oper.wp, execOp, Oper.upon, go_sem, Act.eval, e0]
                  exact hK _ w' (Below.refl _ _) rfl
                · intro act w' hbe hd ho K hK
                  have gd : act.tmps.getD 106 undef = .bool false := hd 2 (by rfl)
                  refine .inl ⟨goes_yes 2 false rfl rfl gd, ?_⟩
                  have g : act.tmps.getD 16 undef = .slice la k k := ho 16 (by kernel_rfl)
                  simp [Oper.wp, execOp, Oper.upon, go_sem, Act.eval, g]
                  exact hK _ w' (Below.refl _ _) rfl
                · intro act w' hbe hd ho K hK
                  have gd : act.tmps.getD 106 undef = .bool false := hd 2 (by rfl)
                  refine .inl ⟨goes_yes 2 false rfl rfl gd, ?_⟩
                  have g : act.tmps.getD 5 undef = .pointer (some ⟨w.heap.size, 0, none⟩) := ho 5 (by kernel_rfl)
                  have q0 := cell_later hbe v7
                  have q1 := cell_later hbe v8
                  simp [Oper.wp, execOp, Oper.upon, go_sem, Act.eval, g, q0, q1]
                  exact hK _ w' (Below.refl _ _) rfl
                · intro act w' hbe hd ho K hK
                  have gd : act.tmps.getD 106 undef = .bool false := hd 2 (by rfl)
                  refine .inl ⟨goes_yes 2 false rfl rfl gd, ?_⟩
                  have g : act.tmps.getD 2 undef = .slice (some ⟨fb, fof, none⟩) fr.length fc := ho 2 (by kernel_rfl)
                  simp [Oper.wp, execOp, Oper.upon, go_sem, Act.eval, g]
                  exact hK _ w' (Below.refl _ _) rfl
                · intro act w' hbe hd ho K hK
                  have gd : act.tmps.getD 106 undef = .bool false := hd 2 (by rfl)
                  refine .inl ⟨goes_yes 2 false rfl rfl gd, ?_⟩
                  have g : act.tmps.getD 15 undef = .int .i64 (i : Int) := ho 15 (by kernel_rfl)
                  simp [Oper.wp, execOp, Oper.upon, go_sem, Act.eval, g]
                  exact hK _ w' (Below.refl _ _) rfl
                · intro act w' hbe hd ho K hK
                  have gd : act.tmps.getD 106 undef = .bool false := hd 2 (by rfl)
                  refine .inl ⟨goes_yes 2 false rfl rfl gd, ?_⟩
                  have e0 : act.tmps.getD 109 undef = .slice (some ⟨fb, fof, none⟩) fr.length fc := hd 5 (by rfl)
                  have e1 : act.tmps.getD 110 undef = .int .i64 (i : Int) := hd 6 (by rfl)
                  simp [Oper.wp, execOp, Oper.upon, go_sem, Act.eval, e0, e1, hlt]
                  exact hK _ w' (Below.refl _ _) rfl
                · intro act w' hbe hd ho K hK
                  have gd : act.tmps.getD 106 undef = .bool false := hd 2 (by rfl)
                  refine .inl ⟨goes_yes 2 false rfl rfl gd, ?_⟩
                  have e2 : act.tmps.getD 111 undef = .pointer (some ⟨fb, fof + i, none⟩) := hd 7 (by rfl)
                  have q := cell_later hbe f7
                  simp [Oper.wp, execOp, Oper.upon, go_sem, Act.eval, e2, q]
                  exact hK _ w' (Below.refl _ _) rfl
                · intro act w' hbe hd ho K hK
                  have gd : act.tmps.getD 106 undef = .bool false := hd 2 (by rfl)
                  refine .inl ⟨goes_yes 2 false rfl rfl gd, ?_⟩
                  have g : act.tmps.getD 3 undef = .slice too tl.length tc := ho 3 (by kernel_rfl)
                  simp [Oper.wp, execOp, Oper.upon, go_sem, Act.eval, g]
                  exact hK _ w' (Below.refl _ _) rfl
                · intro act w' hbe hd ho K hK
                  have gd : act.tmps.getD 106 undef = .bool false := hd 2 (by rfl)
                  refine .inl ⟨goes_yes 2 false rfl rfl gd, ?_⟩
                  have g : act.tmps.getD 4 undef = .int .i64 nn := ho 4 (by kernel_rfl)
                  simp [Oper.wp, execOp, Oper.upon, go_sem, Act.eval, g]
                  exact hK _ w' (Below.refl _ _) rfl
                · intro act w' hbe hd ho K hK
                  have gd : act.tmps.getD 106 undef = .bool false := hd 2 (by rfl)
                  refine .inl ⟨goes_yes 2 false rfl rfl gd, ?_⟩
                  have e0 : act.tmps.getD 108 undef = .agg #[.int .i64 (n : Int), .slice ao es.length cap] := hd 4 (by rfl)
                  have e1 : act.tmps.getD 112 undef = .int .i64 (s : Int) := hd 8 (by rfl)
                  have e2 : act.tmps.getD 113 undef = .slice too tl.length tc := hd 9 (by rfl)
                  have e3 : act.tmps.getD 114 undef = .int .i64 nn := hd 10 (by rfl)
                  simp [Oper.wp, execOp, Oper.upon, go_sem, Act.eval, e0, e1, e2, e3]
                  refine (HRF.out w' hbe).mono ?_
                  rintro e w8 ⟨a6, c6, rfl, k1, k2⟩
                  exact hK _ w8 k2 ⟨a6, c6, by rw [HKL.out], k1⟩
                · intro act w' hbe hd ho K hK
                  have gd : act.tmps.getD 106 undef = .bool false := hd 2 (by rfl)
                  refine .inl ⟨goes_yes 2 false rfl rfl gd, ?_⟩
                  have e0 : act.tmps.getD 107 undef = .slice la k k := hd 3 (by rfl)
                  obtain ⟨a6, c6, e1, hu⟩ : IntsV q (act.tmps.getD 115 undef) w' := hd 11 (by rfl)
                  rw [HKL.out] at e1
                  simp [Oper.wp, execOp, Oper.upon, go_sem, Act.eval, e0, e1]
                  refine (HSM.out a6 c6 w' hbe hu).mono ?_
                  rintro e w8 ⟨rfl, nq, rfl⟩
                  exact hK _ _ (Below.of_dr _ _) rfl
                · intro act w' hbe hd ho K hK
                  have gd : act.tmps.getD 106 undef = .bool false := hd 2 (by rfl)
                  refine .inl ⟨goes_yes 2 false rfl rfl gd, ?_⟩
                  have e0 : act.tmps.getD 116 undef = .bool true := hd 12 (by rfl)
                  simp [Oper.wp, execOp, Oper.upon, go_sem, Act.eval, e0]
                  exact hK _ w' (Below.refl _ _) rfl
                · intro act w' hbe hd ho K hK
                  have gd : act.tmps.getD 106 undef = .bool false := hd 2 (by rfl)
                  have e0 : act.tmps.getD 117 undef = .bool false := hd 13 (by rfl)
                  refine .inl ⟨goes_free rfl, ?_⟩
                  simp [Oper.wp, execOp, Oper.upon, go_sem, Act.eval, gd, e0]
                  exact hK _ w' (Below.refl _ _) rfl
              intro vs w8 hb8 hR
              have e14 : vs 14 = .bool false := hR 14 (by decide)
              simp only [puts, dstAt, List.getElem?_cons_zero, List.getElem?_cons_succ, Option.bind_some, Option.getD_some, Act.put, List.length_cons, List.length_nil, Nat.reduceAdd, List.setIfInBounds_toArray, List.set_cons_zero, List.set_cons_succ, e14]
              clear hR e14
              have HB8 := Lib.hid (HBW.st (HB7.out.st hb8))
              clear hb8
              generalize vs 0 = y0
              generalize vs 1 = y1
              generalize vs 2 = y2
              generalize vs 3 = y3
              generalize vs 4 = y4
              generalize vs 5 = y5
              generalize vs 6 = y6
              generalize vs 7 = y7
              generalize vs 8 = y8
              generalize vs 9 = y9
              generalize vs 10 = y10
              generalize vs 11 = y11
              generalize vs 12 = y12
              generalize vs 13 = y13
              go_wp2
              go_roundg (fr.length - (i + 1))
              case measure => omega
              case rel => exact ⟨i + 1, by omega, Nat.le_refl _, by go_num, HB8.out⟩
            · obtain rfl : i = fr.length := by omega
              go_wp2_with (first
                | (go_at_call 63; refine (HNB.out _ HBR.out).mono ?_; rintro e w6 ⟨rfl, hb6⟩; (have HB6 := Lib.hid (HB.out.st (HB2.out.st (HBR.out.st hb6)))); clear hb6)
                | (go_at_call 35; refine (HAL.out _).mono ?_; rintro e w7 ⟨rfl, hb7⟩; (have HB7 := Lib.hid (HB6.out.st hb7)); clear hb7))
              go_ret
              exact ⟨rfl, HB7.out⟩
      · refine rows_bad 1 g ao cap h1 s1 ro r rc fo fr fc too tl tc nn w V hf ht HV.out hl hr6 hf6 ht6 (by decide) (fun W hz => (HBA.out W hz).mono ?_)
        intro e w2 hp2
        obtain ⟨rfl, hb2⟩ := hp2.nil e1
        refine ⟨_, _, rfl, hb2, fun W' hz' => ?_, fun W' a' c' hc' => ?_⟩
        · exact of_nil fr tl fo too fc tc W' (HFT.out.1.go ((hz.st hb2).st hz')) (HFT.out.2.go ((hz.st hb2).st hz')) (by omega) (by omega)
        · exact why_bad _ _ _ k1 W' e1
end Go.Proofs.YtkdomobedfhhgaaGreat
