/-
  Walk of package table: Of where it is refused, Tour. What must come at any rate. The reference's Nodes.
  A region whose operations only grow memory, in any order, the frame unseen: what is asked of each operation is what its operands are.
-/
import Derived.Test.YtkdomobedfhhgaaGreatProg
import Derived.Test.YtkdomobedfhhgaaGreatQk02
import Derived.Test.YtkdomobedfhhgaaGreatQb36
import Derived.Test.YtkdomobedfhhgaaGreatQd03
set_option linter.unusedVariables false
set_option linter.unusedSimpArgs false
set_option linter.unnecessarySimpa false
section
namespace Go.Proofs.YtkdomobedfhhgaaGreat
open Go Go.Proofs Go.RowKit Go.Shelf Go.Proofs.YtkdomobedfhhgaaGreat.Hp Go.Proofs.YtkdomobedfhhgaaGreat.Ch

theorem of_nil (fr tl : List Int) (fo too : Option Addr) (fc tc : Nat) (w : World) (hf : Cel w fo (fr.map encI)) (ht : Cel w too (tl.map encI)) (hfl : fr.length ≤ 60) (htl : tl.length ≤ 60) :
    Calls Tryz.prog 38 #[.pointer none, .slice fo fr.length fc, .slice too tl.length tc] w fun e w' => e = .returned (.tuple #[.slice none 0 0, .int .i64 1]) ∧ Below w.heap.size w w' := by
  have HCC := Lib.hid (fun W bk h0 h1 (hz : Below w.heap.size w W) => Concat2_any bk fo too fc tc 2 fr tl W (by omega) (by omega) h0 h1 (hf.go hz) (ht.go hz))
  have HRT := Lib.hid (fun v W => tright_nil v W)
  obtain ⟨al, hal⟩ : ∃ al, al = fr ++ tl := ⟨_, rfl⟩
  rw [← hal] at HCC
  clear hf ht hal hfl htl
  go_enter Tryz.func38, Tryz.ntmps38
  go_wp2_with (first
    | (go_at_call 89; refine (HCC.out _ _ (by go_simp) (by go_simp) (Below.of_al _ _)).mono ?_; rintro e w1 ⟨ao, cap, rfl, hc1, hb1, -⟩; (have HB1 := Lib.hid ((Below.of_al w _).st hb1)); clear hc1 hb1)
    | (go_at_call 88; refine (HRT.out _ _).mono ?_; rintro e w2 ⟨rfl, hb2⟩; (have HB2 := Lib.hid (HB1.out.st hb2)); clear hb2))
  refine bodyPost_ret (v := .tuple #[.slice none 0 0, .int .i64 1]) (by simp [results, Tryz.results38, go_sem]; try rfl) rfl ?_
  exact ⟨rfl, HB2.out⟩
theorem of_off (hb n : Nat) (es : List EdgeD) (R : List Int) (S : List SC) (O I : List (List Int)) (fr tl : List Int) (fo too : Option Addr) (fc tc : Nat) (w : World) (h : HierM w hb n es R S O I) (hf : Cel w fo (fr.map encI)) (ht : Cel w too (tl.map encI)) (hfl : fr.length ≤ 60) (htl : tl.length ≤ 60) (hno : ((fr ++ tl).any (outB n)) = true) :
    Calls Tryz.prog 38 #[.pointer (some ⟨hb, 0, none⟩), .slice fo fr.length fc, .slice too tl.length tc] w fun e w' => e = .returned (.tuple #[.slice none 0 0, .int .i64 7]) ∧ Below w.heap.size w w' := by
  have HCC := Lib.hid (fun W bk h0 h1 (hz : Below w.heap.size w W) => Concat2_any bk fo too fc tc 2 fr tl W (by omega) (by omega) h0 h1 (hf.go hz) (ht.go hz))
  have HRT := Lib.hid (fun ao cap W (hz : Below w.heap.size w W) (hc : Cel W ao ((fr ++ tl).map encI)) => tright_any hb n es R S _ _ ao cap (fr ++ tl) W (h.go hz) (by simp; omega) hc)
  obtain ⟨al, hal⟩ : ∃ al, al = fr ++ tl := ⟨_, rfl⟩
  rw [← hal] at HRT HCC hno
  rw [hno] at HRT
  simp only [if_true] at HRT
  clear h hf ht hno hal hfl htl
  go_enter Tryz.func38, Tryz.ntmps38
  go_wp2_with (first
    | (go_at_call 89; refine (HCC.out _ _ (by go_simp) (by go_simp) (Below.of_al _ _)).mono ?_; rintro e w1 ⟨ao, cap, rfl, hc1, hb1, -⟩; (have HC1 := Lib.hid hc1); (have HB1 := Lib.hid ((Below.of_al w _).st hb1)); clear hc1 hb1)
    | (go_at_call 88; refine (HRT.out _ _ _ HB1.out HC1.out).mono ?_; rintro e w2 ⟨rfl, hb2⟩; (have HB2 := Lib.hid (HB1.out.st hb2)); clear hb2))
  refine bodyPost_ret (v := .tuple #[.slice none 0 0, .int .i64 7]) (by simp [results, Tryz.results38, go_sem]; try rfl) rfl ?_
  exact ⟨rfl, HB2.out⟩

/-- one from one -/
theorem of_one {n : Nat} {es : List EdgeD} {s t : Int} {w w' : World} {e : Ending} (h : OfPost n es [s] [t] w e w') :
    ∃ (b o cap D : Nat), e = .returned (.tuple #[.slice (some ⟨b, o, none⟩) 1 cap, .int .i64 0]) ∧ w'.cell? ⟨b, o, none⟩ = some (.slice (some ⟨D, 0, none⟩) 1 1) ∧ w'.cell? ⟨D, 0, none⟩ = some (.int .u64 (distV es s t)) ∧ DistT es s t ∧ Below w.heap.size w w' := by
  obtain ⟨ao, cap, rows, rfl, h1, h2, h3, h4⟩ := h
  match rows, h1 with
  | [p], _ =>
    obtain ⟨k1, k2⟩ := h3 0 p s rfl rfl
    obtain ⟨b, o, rfl, c0⟩ := h2 0 _ rfl
    obtain ⟨hd, hx⟩ := k2.at (k := 0) (by simp)
    have hq := k2.eq
    rw [hq] at k1
    obtain ⟨b', o', e', c1⟩ := k1 0 (.int .u64 (distV es s t)) rfl
    cases e'
    exact ⟨b, o, cap, p.1, rfl, c0, c1, hd, h4⟩

/-- what Tour gives -/
def TourPost (es : List EdgeD) (l : List Int) (w : World) (e : Ending) (w' : World) : Prop :=
  ((legsOK (distV es) l (l.length - 1) ∧ (∀ j, j < l.length - 1 → DistT es (l.getD j 0) (l.getD (j + 1) 0)) ∧ e = .returned (.tuple #[.int .u64 (legSum (distV es) l (l.length - 1)), .int .i64 0])) ∨
    ((∃ j, j < l.length - 1 ∧ DistT es (l.getD j 0) (l.getD (j + 1) 0) ∧ 4611686018427387904 ≤ distV es (l.getD j 0) (l.getD (j + 1) 0)) ∧ e = .returned (.tuple #[.int .u64 0, .int .i64 9]))) ∧ Below w.heap.size w w'

theorem TourPost.ex {es : List EdgeD} {l : List Int} {w w' : World} {e : Ending} (h : TourPost es l w e w') :
    ∃ tw tk : Int, e = .returned (.tuple #[.int .u64 tw, .int .i64 tk]) ∧ ((tk = 0 ∧ (DistT es (l.getD 0 0) (l.getD (l.length - 1) 0) → distV es (l.getD 0 0) (l.getD (l.length - 1) 0) ≤ tw)) ∨ tk = 9) ∧ Below w.heap.size w w' := by
  obtain ⟨⟨h1, h2, rfl⟩ | ⟨_, rfl⟩, hb⟩ := h
  · exact ⟨_, _, rfl, .inl ⟨rfl, fun hd => tour_ends h1 h2 hd⟩, hb⟩
  · exact ⟨_, _, rfl, .inr rfl, hb⟩
/-- a table, read -/
theorem of_rows {n : Nat} {es : List EdgeD} {fr tl : List Int} {w w' : World} {e : Ending} (h : OfPost n es fr tl w e w') :
    ∃ (ao : Option Addr) (cap : Nat), e = .returned (.tuple #[.slice ao fr.length cap, .int .i64 0]) ∧ (∀ i (hi : i < fr.length), ∃ b o D : Nat, ao = some ⟨b, o, none⟩ ∧ w'.cell? ⟨b, o + i, none⟩ = some (.slice (some ⟨D, 0, none⟩) tl.length tl.length) ∧
      ∀ j (hj : j < tl.length), w'.cell? ⟨D, j, none⟩ = some (.int .u64 (distV es fr[i] tl[j])) ∧ DistT es fr[i] tl[j]) ∧ Below w.heap.size w w' := by
  obtain ⟨ao, cap, rows, rfl, h1, h2, h3, h4⟩ := h
  refine ⟨ao, cap, rfl, fun i hi => ?_, h4⟩
  have hi2 : i < rows.length := by rw [h1]; exact hi
  obtain ⟨k1, k2⟩ := h3 i rows[i] fr[i] (List.getElem?_eq_getElem hi2) (List.getElem?_eq_getElem hi)
  obtain ⟨b, o, e, c0⟩ := h2 i (.slice (some ⟨rows[i].1, 0, none⟩) tl.length tl.length) (by rw [List.getElem?_map, List.getElem?_eq_getElem hi2]; rfl)
  refine ⟨b, o, rows[i].1, e, c0, fun j hj => ?_⟩
  obtain ⟨hd, hx⟩ := k2.at hj
  have hq := k2.eq
  rw [hq] at k1
  obtain ⟨b', o', e', c1⟩ := k1 j (.int .u64 (distV es fr[i] tl[j])) (by simp [hj, encW])
  cases e'
  rw [Nat.zero_add] at c1
  exact ⟨c1, hd⟩

theorem tour_nil (v : Value) (w : World) : Calls Tryz.prog 37 #[.pointer none, v] w fun e w' => e = .returned (.tuple #[.int .u64 0, .int .i64 1]) ∧ Below w.heap.size w w' := by
  have HRT := Lib.hid (fun v W => tright_nil v W)
  go_enter Tryz.func37, Tryz.ntmps37
  go_wp2_with (go_at_call 88; refine (HRT.out _ _).mono ?_; rintro e w2 ⟨rfl, hb2⟩; (have HB2 := Lib.hid hb2); clear hb2)
  refine bodyPost_ret (v := .tuple #[.int .u64 0, .int .i64 1]) (by simp [results, Tryz.results37, go_sem]; try rfl) rfl ?_
  exact ⟨rfl, HB2.out⟩
theorem tour_off (hb n : Nat) (es : List EdgeD) (R : List Int) (S : List SC) (O I : List (List Int)) (ao : Option Addr) (cap : Nat) (l : List Int) (w : World) (h : HierM w hb n es R S O I) (hl : l.length ≤ 60) (hc : Cel w ao (l.map encI)) (hno : l.any (outB n) = true) :
    Calls Tryz.prog 37 #[.pointer (some ⟨hb, 0, none⟩), .slice ao l.length cap] w fun e w' => e = .returned (.tuple #[.int .u64 0, .int .i64 7]) ∧ Below w.heap.size w w' := by
  have HRT := Lib.hid (tright_any hb n es R S O I ao cap l w h (by omega) hc)
  rw [hno] at HRT
  simp only [if_true] at HRT
  clear h hc hno hl
  go_enter Tryz.func37, Tryz.ntmps37
  go_wp2_with (go_at_call 88; refine HRT.out.mono ?_; rintro e w2 ⟨rfl, hb2⟩; (have HB2 := Lib.hid hb2); clear hb2)
  refine bodyPost_ret (v := .tuple #[.int .u64 0, .int .i64 7]) (by simp [results, Tryz.results37, go_sem]; try rfl) rfl ?_
  exact ⟨rfl, HB2.out⟩

set_option maxRecDepth 100000 in
set_option maxHeartbeats 4000000 in
theorem tour_any (hb n : Nat) (es : List EdgeD) (R : List Int) (S : List SC) (ro : List Int) (ao : Option Addr) (cap : Nat) (l : List Int) (w : World) (h : BH w hb n es R S ro) (hl : l.length ≤ 60) (hcap : l.length ≤ cap) (hc : Cel w ao (l.map encI)) (hn : ∀ v ∈ l, nodeN n v) :
    Calls Tryz.prog 37 #[.pointer (some ⟨hb, 0, none⟩), .slice ao l.length cap] w (TourPost es l w) := by
  have HRT := Lib.hid (tright_any hb n es R S _ _ ao cap l w h.mem (by omega) hc)
  rw [outB_no.2 hn] at HRT
  simp only [Bool.false_eq_true, if_false] at HRT
  have HH := Lib.hid h
  have HC := Lib.hid hc
  have HN := Lib.hid hn
  have hl2 : (l.length : Int) ≤ 60 := by omega
  have hl0 : (0 : Int) ≤ (l.length : Int) := by omega
  have hcap2 : (l.length : Int) ≤ (cap : Int) := by omega
  clear h hc hn
  go_enter Tryz.func37, Tryz.ntmps37
  go_upto_region 4 with (go_at_call 88; refine HRT.out.mono ?_; rintro e w2 ⟨rfl, hb2⟩; (have HB2 := Lib.hid hb2); clear hb2)
  go_wp2
  go_loopg [19, 4] l.length (fun gg v19 v4 wr => ∃ i : Nat, i ≤ l.length ∧ l.length - i ≤ gg ∧ v19 = .int .i64 (i : Int) ∧ v4 = .int .u64 (legSum (distV es) l (i - 1)) ∧ Aside (legsOK (distV es) l (i - 1)) ∧ Aside (∀ j, j < i - 1 → DistT es (l.getD j 0) (l.getD (j + 1) 0)) ∧ Aside (Below w.heap.size w wr))
  case atStart => exact ⟨0, Nat.zero_le _, by omega, rfl, rfl, legsOK.none _ _, (fun j hj => absurd hj (by omega)), HB2.out⟩
  case round =>
    obtain ⟨i, hi, hgg, rfl, rfl, HOK, HDT, HB⟩ := hrel
    by_cases hlt : i < l.length
    · have hlt3 : (i : Int) < (l.length : Int) := by omega
      have hi0 : (0 : Int) ≤ (i : Int) := by omega
      obtain ⟨lb, lo, hao, y0⟩ := (HC.out.below HB.out (Nat.le_refl _)).at hlt
      subst hao
      cases i with
      | zero =>
        simp only [Nat.add_zero] at y0
        go_wp2
        go_roundg (l.length - (0 + 1))
        case measure => omega
        case rel => exact ⟨0 + 1, by omega, Nat.le_refl _, by go_num, rfl, HOK.out, HDT.out, HB.out⟩
      | succ j =>
        have hjl : j < l.length := by omega
        obtain ⟨_, _, e, yj⟩ := (HC.out.below HB.out (Nat.le_refl _)).at hjl
        cases e
        have HG0 := Lib.hid (show l.getD j 0 = l[j] by simp [List.getD, hjl])
        have HG1 := Lib.hid (show l.getD (j + 1) 0 = l[j + 1] by simp [List.getD, hlt])
        have HN0 := Lib.hid (HN.out _ (List.getElem_mem hjl))
        have HN1 := Lib.hid (HN.out _ (List.getElem_mem hlt))
        rw [Nat.add_sub_cancel] at HOK HDT
        have hbd := legSum_in HOK.out HDT.out
        have HS := Lib.hid (show legSum (distV es) l (j + 1) = legSum (distV es) l j + distV es l[j] l[j + 1] by rw [← HG0.out, ← HG1.out]; rfl)
        have e1 : legSum (distV es) l (j + 1 - 1) = legSum (distV es) l j := rfl
        rw [e1]
        generalize hq0 : l[j] = s at *
        generalize hq1 : l[j + 1] = t at *
        have HOF := Lib.hid (fun W bx (hz : Below wr.heap.size wr W) (hx : W.cell? ⟨bx, 0, none⟩ = some (.int .i64 t)) => of_any hb n es R S ro [s] [t] (some ⟨lb, lo + j, none⟩) (some ⟨bx, 0, none⟩) (cap - j) 1 W (HH.out.go (HB.out.st hz)) (fun i u hu => by
          match i with
          | 0 => cases hu; exact ⟨lb, lo + j, rfl, cell_later hz yj⟩
          | i + 1 => simp at hu) (fun i u hu => by
          match i with
          | 0 => cases hu; exact ⟨bx, 0, rfl, hx⟩
          | i + 1 => simp at hu) (by simp) (by simp) (by intro v hv; obtain rfl := List.mem_singleton.1 hv; exact HN0.out) (by intro v hv; obtain rfl := List.mem_singleton.1 hv; exact HN1.out))
        have HJ := Lib.hid (show j + 1 < l.length by omega)
        have HSM := Lib.hid hbd
        clear e1 hq0 hq1 hbd
        generalize legSum (distV es) l j = sm at *
        have hj0 : (0 : Int) ≤ (j : Int) := by omega
        have hjc : j ≤ cap := by omega
        have hjc1 : j + 1 ≤ cap := by omega
        have hjc2 : (j : Int) + 1 ≤ (cap : Int) := by omega
        have hj60 : (j : Int) ≤ 59 := by omega
        go_upto_region 9 with (go_at_call 38; refine (HOF.out _ _ (Below.of_al wr _) (by go_simp)).mono ?_; rintro e w3 h3; obtain ⟨b, o, c3, D, rfl, c0, c1, hd, hb3⟩ := of_one h3; (have HB3 := Lib.hid (HB.out.st ((Below.of_al wr _).st hb3))); (have HD3 := Lib.hid hd); clear hb3 hd h3)
        have hdin := HD3.out.in
        have hdt := HD3.out
        rw [← HG0.out, ← HG1.out] at hdt
        have HDJ := Lib.hid (show ∀ i, i < j + 1 → DistT es (l.getD i 0) (l.getD (i + 1) 0) from fun i hi => by
          by_cases e : i = j
          · subst e; exact hdt
          · exact HDT.out i (by omega))
        have HMO := Lib.hid (fun hx : distV es s t < 4611686018427387904 => HOK.out.more (by rw [HG0.out, HG1.out]; exact hx))
        have HFA := Lib.hid (fun hx : ¬ distV es s t < 4611686018427387904 => (show ∃ j, j < l.length - 1 ∧ DistT es (l.getD j 0) (l.getD (j + 1) 0) ∧ 4611686018427387904 ≤ distV es (l.getD j 0) (l.getD (j + 1) 0) from ⟨j, by have := HJ.out; omega, hdt, by rw [HG0.out, HG1.out]; omega⟩))
        clear hdt HD3 HOF HDT HOK HG0 HG1
        generalize distV es s t = x at *
        by_cases hx : x < 4611686018427387904
        · have HM2 := Lib.hid (HMO.out hx)
          have hgx : decide (4611686018427387904 ≤ x) = false := by simp; omega
          have hwr : IntKind.u64.wrap (sm + x) = sm + x := by rw [IntKind.wrap_u64]; have := HSM.out; omega
          clear hx HMO HFA
          go_wp2
          go_roundg (l.length - (j + 1 + 1))
          case measure => omega
          case rel => exact ⟨j + 1 + 1, by omega, Nat.le_refl _, by go_num, by rw [← HS.out]; rfl, HM2.out, HDJ.out, HB3.out⟩
        · have HF2 := Lib.hid (HFA.out hx)
          obtain rfl : x = 4611686018427387904 := by omega
          clear hx HMO HFA
          go_wp2
          refine bodyPost_ret (v := .tuple #[.int .u64 0, .int .i64 9]) (by simp [results, Tryz.results37, go_sem]; try rfl) rfl ?_
          exact ⟨.inr ⟨HF2.out, rfl⟩, HB3.out⟩
    · obtain rfl : i = l.length := by omega
      go_wp2
      refine bodyPost_ret (v := .tuple #[.int .u64 (legSum (distV es) l (l.length - 1)), .int .i64 0]) (by simp [results, Tryz.results37, go_sem]; try rfl) rfl ?_
      exact ⟨.inl ⟨HOK.out, HDT.out, rfl⟩, HB.out⟩

set_option maxRecDepth 100000 in
set_option maxHeartbeats 2000000 in
theorem alive25_any (w : World) : Calls Tryz.prog 35 #[] w fun e w' => e = .returned (.bool true) ∧ Below w.heap.size w w' := by
  have HBU := Lib.hid (fun W => built_any ⟨1, []⟩ none none 0 0 1 1 [] W (Cel.nil _ _) (Cel.nil _ _) (fun _ => by decide) (by decide) (by decide))
  have hself : ∀ (n : Nat) (R : List Int) (S : List SC) (ro : List Int), HierOK [] n R S ro → DistT [] 0 0 → distV [] 0 0 = 0 := by
    intro n R S ro hok hd
    have h1 : Dist (arcG []) 0 0 0 := Dist.self (fun u v w h => (hok.hierB false).pos u v w h) 0
    rcases hd.1 with ⟨h2, -⟩ | ⟨-, h3⟩
    · exact h2.uniq h1
    · exact absurd h1.1 (h3 0)
  have HOF := Lib.hid (fun W hb R S ro (h : BH W hb 1 [] R S ro) b0 b1 (h0 : W.cell? ⟨b0, 0, none⟩ = some (.int .i64 0)) (h1 : W.cell? ⟨b1, 0, none⟩ = some (.int .i64 0)) => of_any hb 1 [] R S ro [0] [0] (some ⟨b0, 0, none⟩) (some ⟨b1, 0, none⟩) 1 1 W h (fun i u hu => by
          match i with
          | 0 => cases hu; exact ⟨b0, 0, rfl, h0⟩
          | i + 1 => simp at hu) (fun i u hu => by
          match i with
          | 0 => cases hu; exact ⟨b1, 0, rfl, h1⟩
          | i + 1 => simp at hu) (by simp) (by simp) (by intro v hv; obtain rfl := List.mem_singleton.1 hv; exact ⟨by decide, by decide⟩) (by intro v hv; obtain rfl := List.mem_singleton.1 hv; exact ⟨by decide, by decide⟩))
  have HS := Lib.hid hself
  clear hself
  go_enter Tryz.func35, Tryz.ntmps35
  go_upto_region 2 with (go_at_call 16; refine (HBU.out _).mono ?_; rintro e w1 hp; obtain ⟨hb, R, S, ro, rfl, hbh, hb1⟩ := hp.good (by decide) (by decide) (by decide); (have HBH := Lib.hid hbh); (have HB1 := Lib.hid hb1); clear hp hbh hb1)
  go_upto_region 3 with (go_at_call 38; refine (HOF.out _ _ _ _ _ (HBH.out.go (by repeat (first | exact Below.refl _ _ | refine Below.al ?_ _ | refine Below.dr ?_ _ | refine Below.drew ?_ | assumption | (refine Below.st ?_ (by assumption))))) _ _ (by go_simp) (by go_simp)).mono ?_; rintro e w3 h3; obtain ⟨b, o, c3, D, rfl, c0, c1, hd, hb3⟩ := of_one h3; (have HB3 := Lib.hid (HB1.out.st (((Below.of_al w1 _).al _).st hb3))); rw [HS.out _ _ _ _ HBH.out.ok hd] at c1; clear hb3 hd h3)
  go_wp2
  go_ret
  exact ⟨rfl, HB3.out⟩

set_option maxRecDepth 100000 in
set_option maxHeartbeats 2000000 in
theorem refNodes_any (n : Nat) (gv : Value) (lo : Option Addr) (lc : Nat) (l : List Int) (w : World) (hc : Cel w lo (l.map encI)) (hl : l.length ≤ 1000000) :
    Calls Tryz.prog 36 #[.agg #[.int .i64 (n : Int), gv], .slice lo l.length lc] w fun e w' => e = .returned (.bool (!(l.any (outB n)))) ∧ Below w.heap.size w w' := by
  obtain ⟨W, hW⟩ : ∃ W, W = w.alloc (Obj.cells #[.int .i64 (n : Int), gv] 24) := ⟨_, rfl⟩
  have hbw : Below w.heap.size w W := by rw [hW]; exact Below.of_al _ _
  have c0 : W.cell? ⟨w.heap.size, 0, none⟩ = some (.int .i64 (n : Int)) := by rw [hW]; go_simp
  have HC := Lib.hid (hc.go hbw)
  have HW := Lib.hid hW
  have HB := Lib.hid hbw
  have hl2 : (l.length : Int) ≤ 1000000 := by omega
  have HC0 := Lib.hid c0
  clear hc hW hbw c0
  go_enter Tryz.func36, Tryz.ntmps36
  go_upto_region 1 with (fail)
  rw [← HW.out]
  go_wp2
  go_loopg [5] l.length (fun gg v5 wr => ∃ i : Nat, i ≤ l.length ∧ l.length - i ≤ gg ∧ v5 = .int .i64 (i : Int) ∧ Aside (∀ j (hj : j < l.length), j < i → outB n l[j] = false) ∧ Aside (Below W.heap.size W wr))
  case atStart => exact ⟨0, Nat.zero_le _, by omega, rfl, (fun j _ h => absurd h (Nat.not_lt_zero _)), Below.refl _ _⟩
  case round =>
    obtain ⟨i, hi, hgg, rfl, HA, HBW⟩ := hrel
    by_cases hlt : i < l.length
    · have hlt3 : (i : Int) < (l.length : Int) := by omega
      have hi0 : (0 : Int) ≤ (i : Int) := by omega
      obtain ⟨lb, lof, hao, y0⟩ := (HC.out.go HBW.out).at hlt
      subst hao
      have b0 := cell_later HBW.out HC0.out
      have HX := Lib.hid (fun h : outB n l[i] = true => (show l.any (outB n) = true from List.any_eq_true.2 ⟨_, List.getElem_mem hlt, h⟩))
      have HY := Lib.hid (fun h : outB n l[i] = false => (show ∀ j (hj : j < l.length), j < i + 1 → outB n l[j] = false from fun j hj hji => by
        by_cases e : j = i
        · subst e; exact h
        · exact HA.out j hj (by omega)))
      unfold outB at HX HY
      generalize l[i] = x at *
      have f0 := fun p => cell_ext p y0
      have f1 := fun p => cell_ext p b0
      by_cases h1 : x < 0
      · have HX2 := Lib.hid (HX.out (by simp [h1]))
        clear HX HY y0 b0
        go_upto_region 4 with (fail)
        refine wp_region_ext (by kernel_rfl) (by kernel_rfl) ?_
        repeat (go_big_quiet_step (fail))
        refine wpQuiet_nil ?_
        rintro _ ⟨p7, rfl⟩
        have HB7 := Lib.hid (below_ext wr p7)
        generalize ext wr p7 = w7 at HB7 ⊢
        go_wp2
        go_ret
        exact ⟨by rw [show l.any (outB n) = true from HX2.out]; rfl, HB.out.st (HBW.out.st HB7.out)⟩
      · by_cases h2 : (n : Int) ≤ x
        · have HX2 := Lib.hid (HX.out (by simp [h2]))
          have hg1 : decide (x < 0) = false := by simp; omega
          clear HX HY y0 b0 h1
          go_upto_region 4 with (fail)
          refine wp_region_ext (by kernel_rfl) (by kernel_rfl) ?_
          repeat (go_big_quiet_step (fail))
          refine wpQuiet_nil ?_
          rintro _ ⟨p7, rfl⟩
          have HB7 := Lib.hid (below_ext wr p7)
          generalize ext wr p7 = w7 at HB7 ⊢
          go_wp2
          go_ret
          exact ⟨by rw [show l.any (outB n) = true from HX2.out]; rfl, HB.out.st (HBW.out.st HB7.out)⟩
        · have HY2 := Lib.hid (HY.out (by simp; omega))
          have hg1 : decide (x < 0) = false := by simp; omega
          have hg2 : decide ((n : Int) ≤ x) = false := by simp; omega
          clear HX HY y0 b0 h1 h2
          go_upto_region 4 with (fail)
          refine wp_region_ext (by kernel_rfl) (by kernel_rfl) ?_
          repeat (go_big_quiet_step (fail))
          refine wpQuiet_nil ?_
          rintro _ ⟨p7, rfl⟩
          have HB7 := Lib.hid (below_ext wr p7)
          generalize ext wr p7 = w7 at HB7 ⊢
          go_wp2
          go_roundg (l.length - (i + 1))
          case measure => omega
          case rel => exact ⟨i + 1, by omega, Nat.le_refl _, by go_num, HY2.out, HBW.out.st HB7.out⟩
    · obtain rfl : i = l.length := by omega
      have HX2 := Lib.hid (show l.any (outB n) = false from List.any_eq_false.2 (fun x hx => by
        obtain ⟨j, hj, rfl⟩ := List.getElem_of_mem hx
        rw [HA.out j hj hj]
        decide))
      go_wp2
      go_ret
      exact ⟨by rw [HX2.out]; rfl, HB.out.st HBW.out⟩

end Go.Proofs.YtkdomobedfhhgaaGreat
end

section
namespace Go.Proofs.YtkdomobedfhhgaaGreat
open Go Go.Proofs Go.RowKit
section
variable {a : Act} {P : Program} {Q : Exit → Act → World → Prop} {w : World}
theorem wp_region_grows_act {id : Nat} {l : List Oper} (n : Nat) (hln : l.length = n) (R : Nat → Value → World → Prop) (hm : P.follows .mixedOrders = true) (hB : growB l a.tmps.size = true)
    (hmono : ∀ i v w w', Below w.heap.size w w' → R i v w → R i v w')
    (hop : opsAll (fun i o => ∀ (act : Act) w', Below w.heap.size w w' → (∀ j, depB l i j = true → R j (act.tmps.getD (dstAt l j) undef) w') → (∀ t, offB l n t = true → act.tmps.getD t undef = a.tmps.getD t undef) →
      ∀ K : Act → World → Prop, (∀ v w'', Below w'.heap.size w' w'' → R i v w'' → K (act.put o.dst v) w'') → o.wp P act w' K Q) 0 l)
    (hend : ∀ (vs : Nat → Value) w', Below w.heap.size w w' → (∀ i, i < n → R i (vs i) w') → Q .normal (puts a (dstAt l) vs n) w') : (Code.region id l.toArray true).wp P Q a w := by
  subst hln
  have hg := fun i (hi : i < l.length) => growB_at hB (List.getElem?_eq_getElem hi)
  have hD : ∀ i, i < l.length → dstAt l i < a.tmps.size := fun i hi => (hg i hi).2.2.1
  have hinj : ∀ i j, i < l.length → j < l.length → dstAt l i = dstAt l j → i = j := fun i j hi hj e => by
    rcases Nat.lt_trichotomy i j with k | k | k
    · exact absurd e ((hg j hj).2.2.2.2 i k)
    · exact k
    · exact absurd e.symm ((hg i hi).2.2.2.2 j k)
  have hon : ∀ vs j, j < l.length → (puts a (dstAt l) vs l.length).tmps.getD (dstAt l j) undef = vs j := fun vs j hj => by
    rw [Array.getD_eq_getD_getElem?, puts_on hinj hj (hD j hj)]
    rfl
  have hoff : ∀ vs t, offB l l.length t = true → (puts a (dstAt l) vs l.length).tmps.getD t undef = a.tmps.getD t undef := fun vs t ht => by
    rw [Array.getD_eq_getD_getElem?, Array.getD_eq_getD_getElem?, puts_off (fun i hi e => by
      have := List.all_eq_true.1 ht i (List.mem_range.2 hi)
      simp [e] at this)]
  refine wp_region_grows (fun i v g _ w => g = [] ∧ R i v w) hm hB (fun i v g vs w w' hb h => ⟨h.1, hmono i v w w' hb h.2⟩) (fun i v g vs vs' w _ h => h) ?_ (fun vs gs w' hb hR _ _ => hend vs w' hb (fun i hi => (hR i hi).2))
  have key : ∀ (k : Nat) (ll : List Oper), (∀ i o, ll[i]? = some o → l[k + i]? = some o ∧ k + i < l.length) → opsAll (fun i o => ∀ (act : Act) w', Below w.heap.size w w' → (∀ j, depB l i j = true → R j (act.tmps.getD (dstAt l j) undef) w') → (∀ t, offB l l.length t = true → act.tmps.getD t undef = a.tmps.getD t undef) →
      ∀ K : Act → World → Prop, (∀ v w'', Below w'.heap.size w' w'' → R i v w'' → K (act.put o.dst v) w'') → o.wp P act w' K Q) k ll → opsAll (fun i o => ∀ (vs : Nat → Value) w', Below w.heap.size w w' → (∀ j, depB l i j = true → ∃ g : List Nat, g = [] ∧ R j (vs j) w') →
      ∀ K : Act → World → Prop, (∀ v g w'', Below w'.heap.size w' w'' → (g = [] ∧ R i v w'') → (∀ k ∈ g, w'.heap.size ≤ k ∧ k < w''.heap.size) → K ((puts a (dstAt l) vs l.length).put o.dst v) w'') → o.wp P (puts a (dstAt l) vs l.length) w' K Q) k ll := by
    intro k ll
    induction ll generalizing k with
    | nil => intro _ _; trivial
    | cons o ll ih =>
      intro hll h
      refine ⟨fun vs w' hb hd K hK => ?_, ih (k + 1) (fun i o' hi => by
        have := hll (i + 1) o' (by simpa using hi)
        rw [show k + 1 + i = k + (i + 1) by omega]
        exact this) h.2⟩
      obtain ⟨h0, h1⟩ := hll 0 o rfl
      rw [Nat.add_zero] at h0 h1
      refine h.1 _ w' hb (fun j hj => ?_) (fun t ht => hoff vs t ht) K (fun v w'' hb2 hr => hK v [] w'' hb2 ⟨rfl, hr⟩ (fun _ h => nomatch h))
      have hj2 : j < l.length := by
        have h3 := (growB_at hB h0).2.2.2.1
        unfold depB at hj
        simp only [h0] at hj
        obtain ⟨e, he, k2⟩ := List.any_eq_true.1 hj
        simp only [Bool.and_eq_true, beq_iff_eq] at k2
        have := h3 e (Array.mem_toList_iff.1 he) k2.1
        omega
      rw [hon vs j hj2]
      exact (hd j hj).choose_spec.2
  exact key 0 l (fun i o hi => by
    have hl := (List.getElem?_eq_some_iff.1 hi).1
    rw [Nat.zero_add]
    exact ⟨hi, hl⟩) hop
end
end Go.Proofs.YtkdomobedfhhgaaGreat
end
