/-
  Walk of package table: Of where it is refused, Tour. What must come at any rate. The reference's Nodes.
  Walk: table.Near.
  A region within a round of a range over a function: operations that only grow memory, in any order, and a last one that waits for all of them.
  A region whose operations only grow memory, in any order, the frame unseen: what is asked of each operation is what its operands are.
-/
import Derived.Test.YtkdomobedfhhgaaGreatProg
import Derived.Test.YtkdomobedfhhgaaGreatRa06
import Derived.Test.YtkdomobedfhhgaaGreatQb36
import Derived.Test.YtkdomobedfhhgaaGreatRa01
import Derived.Deep.CutRange
import Derived.Test.YtkdomobedfhhgaaGreatQb28
set_option linter.unusedVariables false
set_option linter.unusedSimpArgs false
set_option linter.unnecessarySimpa false
section
namespace Go.Proofs.YtkdomobedfhhgaaGreat
open Go Go.Proofs Go.RowKit Go.Shelf Go.Proofs.YtkdomobedfhhgaaGreat.Hp Go.Proofs.YtkdomobedfhhgaaGreat.Ch

theorem of_nil (fr tl : List Int) (fo too : Option Addr) (fc tc : Nat) (w : World) (hf : Cel w fo (fr.map encI)) (ht : Cel w too (tl.map encI)) (hfl : fr.length ≤ 60) (htl : tl.length ≤ 60) :
    Calls Tryz.prog 38 #[.pointer none, .slice fo fr.length fc, .slice too tl.length tc] w fun e w' => e = .returned (.tuple #[.slice none 0 0, .int .i64 1]) ∧ Below w.heap.size w w' := by
  have HCC := Lib.hid (fun W bk h0 h1 (hz : Below w.heap.size w W) => Concat2_any bk fo too fc tc 2 fr tl W (by omega) (by omega) h0 h1 (hf.go hz) (ht.go hz))
  have HRT := Lib.hid (fun v W => tright_nil v W)
  obtain ⟨al, hal⟩ : ∃ al, al = fr ++ tl := ⟨_, rfl⟩
  rw [← hal] at HCC
  clear hf ht hal hfl htl
  go_enter Tryz.func38, Tryz.ntmps38
  go_wp2_with (first
    | (go_at_call 89; refine (HCC.out _ _ (by go_simp) (by go_simp) (Below.of_al _ _)).mono ?_; rintro e w1 ⟨ao, cap, rfl, hc1, hb1, -⟩; (have HB1 := Lib.hid ((Below.of_al w _).st hb1)); clear hc1 hb1)
    | (go_at_call 88; refine (HRT.out _ _).mono ?_; rintro e w2 ⟨rfl, hb2⟩; (have HB2 := Lib.hid (HB1.out.st hb2)); clear hb2))
  refine bodyPost_ret (v := .tuple #[.slice none 0 0, .int .i64 1]) (by simp [results, Tryz.results38, go_sem]; try rfl) rfl ?_
  exact ⟨rfl, HB2.out⟩
theorem of_off (hb n : Nat) (es : List EdgeD) (R : List Int) (S : List SC) (O I : List (List Int)) (fr tl : List Int) (fo too : Option Addr) (fc tc : Nat) (w : World) (h : HierM w hb n es R S O I) (hf : Cel w fo (fr.map encI)) (ht : Cel w too (tl.map encI)) (hfl : fr.length ≤ 60) (htl : tl.length ≤ 60) (hno : ((fr ++ tl).any (outB n)) = true) :
    Calls Tryz.prog 38 #[.pointer (some ⟨hb, 0, none⟩), .slice fo fr.length fc, .slice too tl.length tc] w fun e w' => e = .returned (.tuple #[.slice none 0 0, .int .i64 7]) ∧ Below w.heap.size w w' := by
  have HCC := Lib.hid (fun W bk h0 h1 (hz : Below w.heap.size w W) => Concat2_any bk fo too fc tc 2 fr tl W (by omega) (by omega) h0 h1 (hf.go hz) (ht.go hz))
  have HRT := Lib.hid (fun ao cap W (hz : Below w.heap.size w W) (hc : Cel W ao ((fr ++ tl).map encI)) => tright_any hb n es R S _ _ ao cap (fr ++ tl) W (h.go hz) (by simp; omega) hc)
  obtain ⟨al, hal⟩ : ∃ al, al = fr ++ tl := ⟨_, rfl⟩
  rw [← hal] at HRT HCC hno
  rw [hno] at HRT
  simp only [if_true] at HRT
  clear h hf ht hno hal hfl htl
  go_enter Tryz.func38, Tryz.ntmps38
  go_wp2_with (first
    | (go_at_call 89; refine (HCC.out _ _ (by go_simp) (by go_simp) (Below.of_al _ _)).mono ?_; rintro e w1 ⟨ao, cap, rfl, hc1, hb1, -⟩; (have HC1 := Lib.hid hc1); (have HB1 := Lib.hid ((Below.of_al w _).st hb1)); clear hc1 hb1)
    | (go_at_call 88; refine (HRT.out _ _ _ HB1.out HC1.out).mono ?_; rintro e w2 ⟨rfl, hb2⟩; (have HB2 := Lib.hid (HB1.out.st hb2)); clear hb2))
  refine bodyPost_ret (v := .tuple #[.slice none 0 0, .int .i64 7]) (by simp [results, Tryz.results38, go_sem]; try rfl) rfl ?_
  exact ⟨rfl, HB2.out⟩

/-- one from one -/
theorem of_one {n : Nat} {es : List EdgeD} {s t : Int} {w w' : World} {e : Ending} (h : OfPost n es [s] [t] w e w') :
    ∃ (b o cap D : Nat), e = .returned (.tuple #[.slice (some ⟨b, o, none⟩) 1 cap, .int .i64 0]) ∧ w'.cell? ⟨b, o, none⟩ = some (.slice (some ⟨D, 0, none⟩) 1 1) ∧ w'.cell? ⟨D, 0, none⟩ = some (.int .u64 (distV es s t)) ∧ DistT es s t ∧ Below w.heap.size w w' := by
  obtain ⟨ao, cap, rows, rfl, h1, h2, h3, h4⟩ := h
  match rows, h1 with
  | [p], _ =>
    obtain ⟨k1, k2⟩ := h3 0 p s rfl rfl
    obtain ⟨b, o, rfl, c0⟩ := h2 0 _ rfl
    obtain ⟨hd, hx⟩ := k2.at (k := 0) (by simp)
    have hq := k2.eq
    rw [hq] at k1
    obtain ⟨b', o', e', c1⟩ := k1 0 (.int .u64 (distV es s t)) rfl
    cases e'
    exact ⟨b, o, cap, p.1, rfl, c0, c1, hd, h4⟩

/-- a table, read -/
theorem of_rows {n : Nat} {es : List EdgeD} {fr tl : List Int} {w w' : World} {e : Ending} (h : OfPost n es fr tl w e w') :
    ∃ (ao : Option Addr) (cap : Nat), e = .returned (.tuple #[.slice ao fr.length cap, .int .i64 0]) ∧ (∀ i (hi : i < fr.length), ∃ b o D : Nat, ao = some ⟨b, o, none⟩ ∧ w'.cell? ⟨b, o + i, none⟩ = some (.slice (some ⟨D, 0, none⟩) tl.length tl.length) ∧
      ∀ j (hj : j < tl.length), w'.cell? ⟨D, j, none⟩ = some (.int .u64 (distV es fr[i] tl[j])) ∧ DistT es fr[i] tl[j]) ∧ Below w.heap.size w w' := by
  obtain ⟨ao, cap, rows, rfl, h1, h2, h3, h4⟩ := h
  refine ⟨ao, cap, rfl, fun i hi => ?_, h4⟩
  have hi2 : i < rows.length := by rw [h1]; exact hi
  obtain ⟨k1, k2⟩ := h3 i rows[i] fr[i] (List.getElem?_eq_getElem hi2) (List.getElem?_eq_getElem hi)
  obtain ⟨b, o, e, c0⟩ := h2 i (.slice (some ⟨rows[i].1, 0, none⟩) tl.length tl.length) (by rw [List.getElem?_map, List.getElem?_eq_getElem hi2]; rfl)
  refine ⟨b, o, rows[i].1, e, c0, fun j hj => ?_⟩
  obtain ⟨hd, hx⟩ := k2.at hj
  have hq := k2.eq
  rw [hq] at k1
  obtain ⟨b', o', e', c1⟩ := k1 j (.int .u64 (distV es fr[i] tl[j])) (by simp [hj, encW])
  cases e'
  rw [Nat.zero_add] at c1
  exact ⟨c1, hd⟩

set_option maxRecDepth 100000 in
set_option maxHeartbeats 2000000 in
theorem alive25_any (w : World) : Calls Tryz.prog 35 #[] w fun e w' => e = .returned (.bool true) ∧ Below w.heap.size w w' := by
  have HBU := Lib.hid (fun W => built_any ⟨1, []⟩ none none 0 0 1 1 [] W (Cel.nil _ _) (Cel.nil _ _) (fun _ => by decide) (by decide) (by decide))
  have hself : ∀ (n : Nat) (R : List Int) (S : List SC) (ro : List Int), HierOK [] n R S ro → DistT [] 0 0 → distV [] 0 0 = 0 := by
    intro n R S ro hok hd
    have h1 : Dist (arcG []) 0 0 0 := Dist.self (fun u v w h => (hok.hierB false).pos u v w h) 0
    rcases hd.1 with ⟨h2, -⟩ | ⟨-, h3⟩
    · exact h2.uniq h1
    · exact absurd h1.1 (h3 0)
  have HOF := Lib.hid (fun W hb R S ro (h : BH W hb 1 [] R S ro) b0 b1 (h0 : W.cell? ⟨b0, 0, none⟩ = some (.int .i64 0)) (h1 : W.cell? ⟨b1, 0, none⟩ = some (.int .i64 0)) => of_any hb 1 [] R S ro [0] [0] (some ⟨b0, 0, none⟩) (some ⟨b1, 0, none⟩) 1 1 W h (fun i u hu => by
          match i with
          | 0 => cases hu; exact ⟨b0, 0, rfl, h0⟩
          | i + 1 => simp at hu) (fun i u hu => by
          match i with
          | 0 => cases hu; exact ⟨b1, 0, rfl, h1⟩
          | i + 1 => simp at hu) (by simp) (by simp) (by intro v hv; obtain rfl := List.mem_singleton.1 hv; exact ⟨by decide, by decide⟩) (by intro v hv; obtain rfl := List.mem_singleton.1 hv; exact ⟨by decide, by decide⟩))
  have HS := Lib.hid hself
  clear hself
  go_enter Tryz.func35, Tryz.ntmps35
  go_upto_region 2 with (go_at_call 16; refine (HBU.out _).mono ?_; rintro e w1 hp; obtain ⟨hb, R, S, ro, rfl, hbh, hb1⟩ := hp.good (by decide) (by decide) (by decide); (have HBH := Lib.hid hbh); (have HB1 := Lib.hid hb1); clear hp hbh hb1)
  go_upto_region 3 with (go_at_call 38; refine (HOF.out _ _ _ _ _ (HBH.out.go (by repeat (first | exact Below.refl _ _ | refine Below.al ?_ _ | refine Below.dr ?_ _ | refine Below.drew ?_ | assumption | (refine Below.st ?_ (by assumption))))) _ _ (by go_simp) (by go_simp)).mono ?_; rintro e w3 h3; obtain ⟨b, o, c3, D, rfl, c0, c1, hd, hb3⟩ := of_one h3; (have HB3 := Lib.hid (HB1.out.st (((Below.of_al w1 _).al _).st hb3))); rw [HS.out _ _ _ _ HBH.out.ok hd] at c1; clear hb3 hd h3)
  go_wp2
  go_ret
  exact ⟨rfl, HB3.out⟩

set_option maxRecDepth 100000 in
set_option maxHeartbeats 2000000 in
theorem refNodes_any (n : Nat) (gv : Value) (lo : Option Addr) (lc : Nat) (l : List Int) (w : World) (hc : Cel w lo (l.map encI)) (hl : l.length ≤ 1000000) :
    Calls Tryz.prog 36 #[.agg #[.int .i64 (n : Int), gv], .slice lo l.length lc] w fun e w' => e = .returned (.bool (!(l.any (outB n)))) ∧ Below w.heap.size w w' := by
  obtain ⟨W, hW⟩ : ∃ W, W = w.alloc (Obj.cells #[.int .i64 (n : Int), gv] 24) := ⟨_, rfl⟩
  have hbw : Below w.heap.size w W := by rw [hW]; exact Below.of_al _ _
  have c0 : W.cell? ⟨w.heap.size, 0, none⟩ = some (.int .i64 (n : Int)) := by rw [hW]; go_simp
  have HC := Lib.hid (hc.go hbw)
  have HW := Lib.hid hW
  have HB := Lib.hid hbw
  have hl2 : (l.length : Int) ≤ 1000000 := by omega
  have HC0 := Lib.hid c0
  clear hc hW hbw c0
  go_enter Tryz.func36, Tryz.ntmps36
  go_upto_region 1 with (fail)
  rw [← HW.out]
  go_wp2
  go_loopg [5] l.length (fun gg v5 wr => ∃ i : Nat, i ≤ l.length ∧ l.length - i ≤ gg ∧ v5 = .int .i64 (i : Int) ∧ Aside (∀ j (hj : j < l.length), j < i → outB n l[j] = false) ∧ Aside (Below W.heap.size W wr))
  case atStart => exact ⟨0, Nat.zero_le _, by omega, rfl, (fun j _ h => absurd h (Nat.not_lt_zero _)), Below.refl _ _⟩
  case round =>
    obtain ⟨i, hi, hgg, rfl, HA, HBW⟩ := hrel
    by_cases hlt : i < l.length
    · have hlt3 : (i : Int) < (l.length : Int) := by omega
      have hi0 : (0 : Int) ≤ (i : Int) := by omega
      obtain ⟨lb, lof, hao, y0⟩ := (HC.out.go HBW.out).at hlt
      subst hao
      have b0 := cell_later HBW.out HC0.out
      have HX := Lib.hid (fun h : outB n l[i] = true => (show l.any (outB n) = true from List.any_eq_true.2 ⟨_, List.getElem_mem hlt, h⟩))
      have HY := Lib.hid (fun h : outB n l[i] = false => (show ∀ j (hj : j < l.length), j < i + 1 → outB n l[j] = false from fun j hj hji => by
        by_cases e : j = i
        · subst e; exact h
        · exact HA.out j hj (by omega)))
      unfold outB at HX HY
      generalize l[i] = x at *
      have f0 := fun p => cell_ext p y0
      have f1 := fun p => cell_ext p b0
      by_cases h1 : x < 0
      · have HX2 := Lib.hid (HX.out (by simp [h1]))
        clear HX HY y0 b0
        go_upto_region 4 with (fail)
        refine wp_region_ext (by kernel_rfl) (by kernel_rfl) ?_
        repeat (go_big_quiet_step (fail))
        refine wpQuiet_nil ?_
        rintro _ ⟨p7, rfl⟩
        have HB7 := Lib.hid (below_ext wr p7)
        generalize ext wr p7 = w7 at HB7 ⊢
        go_wp2
        go_ret
        exact ⟨by rw [show l.any (outB n) = true from HX2.out]; rfl, HB.out.st (HBW.out.st HB7.out)⟩
      · by_cases h2 : (n : Int) ≤ x
        · have HX2 := Lib.hid (HX.out (by simp [h2]))
          have hg1 : decide (x < 0) = false := by simp; omega
          clear HX HY y0 b0 h1
          go_upto_region 4 with (fail)
          refine wp_region_ext (by kernel_rfl) (by kernel_rfl) ?_
          repeat (go_big_quiet_step (fail))
          refine wpQuiet_nil ?_
          rintro _ ⟨p7, rfl⟩
          have HB7 := Lib.hid (below_ext wr p7)
          generalize ext wr p7 = w7 at HB7 ⊢
          go_wp2
          go_ret
          exact ⟨by rw [show l.any (outB n) = true from HX2.out]; rfl, HB.out.st (HBW.out.st HB7.out)⟩
        · have HY2 := Lib.hid (HY.out (by simp; omega))
          have hg1 : decide (x < 0) = false := by simp; omega
          have hg2 : decide ((n : Int) ≤ x) = false := by simp; omega
          clear HX HY y0 b0 h1 h2
          go_upto_region 4 with (fail)
          refine wp_region_ext (by kernel_rfl) (by kernel_rfl) ?_
          repeat (go_big_quiet_step (fail))
          refine wpQuiet_nil ?_
          rintro _ ⟨p7, rfl⟩
          have HB7 := Lib.hid (below_ext wr p7)
          generalize ext wr p7 = w7 at HB7 ⊢
          go_wp2
          go_roundg (l.length - (i + 1))
          case measure => omega
          case rel => exact ⟨i + 1, by omega, Nat.le_refl _, by go_num, HY2.out, HBW.out.st HB7.out⟩
    · obtain rfl : i = l.length := by omega
      have HX2 := Lib.hid (show l.any (outB n) = false from List.any_eq_false.2 (fun x hx => by
        obtain ⟨j, hj, rfl⟩ := List.getElem_of_mem hx
        rw [HA.out j hj hj]
        decide))
      go_wp2
      go_ret
      exact ⟨by rw [HX2.out]; rfl, HB.out.st HBW.out⟩

end Go.Proofs.YtkdomobedfhhgaaGreat
end

section
namespace Go.Proofs.YtkdomobedfhhgaaGreat
open Go Go.Proofs Go.RowKit Go.Shelf Go.Proofs.YtkdomobedfhhgaaGreat.Hp Go.Proofs.YtkdomobedfhhgaaGreat.Ch Go.Proofs.YtkdomobedfhhgaaGreat.Ns

/-- the rows, behind a box -/
def BoxR (w : World) (X : Nat) (ds : List Int) : Prop := ∃ rb ro rc D, w.cell? ⟨X, 0, none⟩ = some (.slice (some ⟨rb, ro, none⟩) 1 rc) ∧ w.cell? ⟨rb, ro, none⟩ = some (.slice (some ⟨D, 0, none⟩) ds.length ds.length) ∧ Cel w (some ⟨D, 0, none⟩) (ds.map encW)
theorem BoxR.go {w w' : World} {X : Nat} {ds : List Int} (h : BoxR w X ds) (hb : Below w.heap.size w w') : BoxR w' X ds := by
  obtain ⟨rb, ro, rc, D, h1, h2, h3⟩ := h
  exact ⟨rb, ro, rc, D, cell_later hb h1, cell_later hb h2, h3.go hb⟩

theorem Near1_any (ds : List Int) (X : Nat) (x y : Nat) (W : World) (hx : x < ds.length) (hy : y < ds.length) (hk : BoxR W X ds) :
    Calls Tryz.prog 102 (#[.int .i64 x, .int .i64 y] ++ #[.pointer (some ⟨X, 0, none⟩)]) W fun e w' => e = .returned (.int .i64 (cmpI ds[x] ds[y])) ∧ Below W.heap.size W w' := by
  obtain ⟨rb, ro, rc, D, h1, h0, h2⟩ := hk
  obtain ⟨b, o, e, c1⟩ := h2.at hx
  cases e
  obtain ⟨b', o', e, c2⟩ := h2.at hy
  cases e
  rw [Nat.zero_add] at c1 c2
  have HC := Lib.hid (fun W => Compare_any ds[x] ds[y] W)
  have hx2 : (x : Int) < (ds.length : Int) := by omega
  have hy2 : (y : Int) < (ds.length : Int) := by omega
  have hx0 : (0 : Int) ≤ (x : Int) := by omega
  have hy0 : (0 : Int) ≤ (y : Int) := by omega
  clear h2
  generalize cmpI ds[x] ds[y] = r at *
  generalize ds[x] = kx at *
  generalize ds[y] = ky at *
  have K0 := fun p => cell_ext p h0
  have K1 := fun p => cell_ext p h1
  have K2 := fun p => cell_ext p c1
  have K3 := fun p => cell_ext p c2
  go_enter Tryz.func102, Tryz.ntmps102
  go_wp2
  refine wp_region_ext (by kernel_rfl) (by kernel_rfl) ?_
  repeat (go_big_quiet_step ((go_at_call 103; exact Calls.ext_of ((HC.out _).mono fun _ _ ⟨he, hw⟩ => ⟨he, hw ▸ Below.refl _ _⟩))))
  refine wpQuiet_nil ?_
  rintro _ ⟨p1, rfl⟩
  have HB1 := Lib.hid (below_ext W p1)
  generalize ext W p1 = w1 at HB1 ⊢
  go_wp2
  go_ret
  exact ⟨rfl, HB1.out⟩
theorem near_cmp {ds : List Int} {X base : Nat} {w0 : World} (hk : BoxR w0 X ds) (hb : base = w0.heap.size) : CmpOn 102 #[.pointer (some ⟨X, 0, none⟩)] (keyD ds) ds.length base w0 := by
  subst hb
  intro W x y hz hx0 hx1 hy0 hy1
  obtain ⟨x, rfl⟩ : ∃ n : Nat, x = (n : Int) := ⟨x.toNat, by omega⟩
  obtain ⟨y, rfl⟩ : ∃ n : Nat, y = (n : Int) := ⟨y.toNat, by omega⟩
  have hx : x < ds.length := by omega
  have hy : y < ds.length := by omega
  have := Near1_any ds X x y W hx hy (hk.go hz)
  have e1 : keyD ds (x : Int) = ds[x] := by unfold keyD; rw [Int.toNat_natCast]; simp [List.getD, hx]
  have e2 : keyD ds (y : Int) = ds[y] := by unfold keyD; rw [Int.toNat_natCast]; simp [List.getD, hy]
  rw [e1, e2]
  exact this

/-- the places, sorted -/
def SortedP (ds L : List Int) : Prop := L.Perm (plc 4611686018427387904 ds ds.length) ∧ Srt (keyD ds) 0 L.length L
def NearPost (es : List EdgeD) (s : Int) (tl : List Int) (n : Int) (w : World) (e : Ending) (w' : World) : Prop :=
  ∃ (L : List Int) (ao : Option Addr) (k : Nat), SortedP (tl.map (distV es s)) L ∧ (k : Int) = min (max n 0) (L.length : Int) ∧ e = .returned (.tuple #[.slice ao k k, .int .i64 0]) ∧ Cel w' ao ((L.take k).map encI) ∧ Below w.heap.size w w'

theorem cap_of_ownsI {w : World} {base g N cp : Nat} {l : List Int} (h : RowI w base g N cp l) : N ≤ cp := by
  rcases h.2 with ⟨h1, rfl⟩ | ⟨g, cap', cur, h1, hb, hg, rest⟩
  · cases h1
  · cases h1
    omega
theorem sort_post {ds : List Int} {X base g cp N : Nat} {l : List Int} {w0 w : World} (hk : BoxR w0 X ds) (hb : base = w0.heap.size) (hbw : Below base w0 w) (hrow : RowI w base g N cp l) (hl : l = plc 4611686018427387904 ds ds.length) (hd : ds.length ≤ 20) :
    Calls Tryz.prog 101 #[.slice (some ⟨g, 0, none⟩) N cp, .func (.func 102) #[] #[.pointer (some ⟨X, 0, none⟩)]] w fun e w' => (∃ v, e = .returned v) ∧ ∃ L, Aside (SortedP ds L) ∧ Aside (RowI w' base g N cp L) ∧ Aside (Below base w0 w') := by
  have hN : l.length = N := hrow.len
  have hle : l.length ≤ ds.length := by rw [hl]; exact plc_len _ _ _
  refine (SortStable_any (keyD ds) ds.length 102 #[.pointer (some ⟨X, 0, none⟩)] base g N cp l w0 w (enters_of Tryz.func102 (by kernel_rfl) rfl) (near_cmp hk hb) hbw hrow ?_ (by omega) ?_).mono ?_
  · intro x hx
    rw [hl] at hx
    exact ⟨(mem_plc.1 hx).1, (mem_plc.1 hx).2.1⟩
  · intro i j x y _ hij _ hx hy
    rw [hl] at hx hy
    exact plc_asc _ _ _ i j x y hij hx hy
  · rintro e w1 ⟨hv, L, h1, h2, h3, h4⟩
    refine ⟨hv, L, ⟨by rw [← hl]; exact h1.perm, ?_⟩, h3, h4⟩
    have : L.length = N := RowI.len h3
    rw [this]
    exact h2

set_option maxRecDepth 100000 in
set_option maxHeartbeats 4000000 in
theorem near_any (hb n : Nat) (es : List EdgeD) (R : List Int) (S : List SC) (ro : List Int) (too : Option Addr) (tc : Nat) (s nn : Int) (tl : List Int) (w : World) (h : BH w hb n es R S ro) (ht : Cel w too (tl.map encI)) (htl : tl.length ≤ 20) (hs : nodeN n s) (htn : ∀ v ∈ tl, nodeN n v) :
    Calls Tryz.prog 63 #[.pointer (some ⟨hb, 0, none⟩), .int .i64 s, .slice too tl.length tc, .int .i64 nn] w (NearPost es s tl nn w) := by
  have HOF := Lib.hid (fun W bx (hz : Below w.heap.size w W) (hx : W.cell? ⟨bx, 0, none⟩ = some (.int .i64 s)) => of_any hb n es R S ro [s] tl (some ⟨bx, 0, none⟩) too 1 tc W (h.go hz) (fun i u hu => by
          match i with
          | 0 => cases hu; exact ⟨bx, 0, rfl, hx⟩
          | i + 1 => simp at hu) (ht.go hz) (by simp) (by omega) (by intro v hv; obtain rfl := List.mem_singleton.1 hv; exact hs) htn)
  have HTL := Lib.hid htl
  have htl2 : (tl.length : Int) ≤ 20 := by omega
  have htl0 : (0 : Int) ≤ (tl.length : Int) := by omega
  clear h ht hs htn htl
  go_enter Tryz.func63, Tryz.ntmps63
  go_upto_region 2 with (go_at_call 38; refine (HOF.out _ _ (Below.of_al w _) (by go_simp)).mono ?_; rintro e w1 hof; obtain ⟨bo, bc, rfl, k1, k4⟩ := of_rows hof; (have HR1 := Lib.hid k1); (have HB1 := Lib.hid ((Below.of_al w _).st k4)); clear hof k1 k4)
  obtain ⟨W5, hW5⟩ : ∃ W5, W5 = w1.alloc (Obj.cells #[Value.slice bo 1 bc] 72) := ⟨_, rfl⟩
  obtain ⟨rb, rof, D, hbo, c0, hrow⟩ := HR1.out 0 Nat.one_pos
  subst hbo
  rw [Nat.add_zero] at c0
  rw [show [s][0] = s from rfl] at hrow
  have hbl5 : Below w1.heap.size w1 W5 := by rw [hW5]; exact Below.of_al _ _
  have HCE := Lib.hid (show Cel w1 (some ⟨D, 0, none⟩) ((tl.map (distV es s)).map encW) from fun j u hu => by
    have hj : j < tl.length := by
      have := (List.getElem?_eq_some_iff.1 hu).1
      simpa using this
    rw [List.getElem?_map, List.getElem?_map, List.getElem?_eq_getElem hj] at hu
    cases hu
    refine ⟨D, 0, rfl, ?_⟩
    rw [Nat.zero_add]
    exact (hrow j hj).1)
  have HBX := Lib.hid (show BoxR W5 w1.heap.size (tl.map (distV es s)) from ⟨rb, rof, bc, D, by rw [hW5]; go_simp, by rw [List.length_map]; exact cell_later hbl5 c0, HCE.out.go hbl5⟩)
  have HB5 := Lib.hid (HB1.out.st hbl5)
  have d0 := cell_later hbl5 c0
  have x0 : W5.cell? ⟨w1.heap.size, 0, none⟩ = some (.slice (some ⟨rb, rof, none⟩) 1 bc) := by rw [hW5]; go_simp
  have HDL := Lib.hid (show (tl.map (distV es s)).length = tl.length from List.length_map _)
  have HC5 := Lib.hid (HCE.out.go hbl5)
  have HNP := Lib.hid (fun e w' h => (show (∃ (L : List Int) (ao : Option Addr) (k : Nat), SortedP (tl.map (distV es s)) L ∧ (k : Int) = min (max nn 0) (L.length : Int) ∧ e = .returned (.tuple #[.slice ao k k, .int .i64 0]) ∧ Cel w' ao ((L.take k).map encI) ∧ Below w.heap.size w w') → NearPost es s tl nn w e w' from fun h => h) h)
  rw [← hW5]
  generalize w1.heap.size = X at *
  clear hrow HCE hW5 hbl5 c0 HR1 HOF
  generalize tl.map (distV es s) = ds at *
  have HR0 := Lib.hid (World.ownsRow_nil W5 W5.heap.size 3 1)
  go_wp2
  go_loopg [12, 30] tl.length (fun gg v12 v30 wr => ∃ k : Nat, k ≤ tl.length ∧ tl.length - k ≤ gg ∧ v30 = .int .i64 (k : Int) ∧ Aside (wr.ownsRow W5.heap.size 3 1 v12 (plc 4611686018427387904 ds k).length ((plc 4611686018427387904 ds k).map encI)) ∧ Aside (Below W5.heap.size W5 wr))
  case atStart => exact ⟨0, Nat.zero_le _, by omega, rfl, HR0.out, Below.refl _ _⟩
  case round =>
    obtain ⟨k, hk, hgg, rfl, HR, HBW⟩ := hrel
    by_cases hlt : k < tl.length
    · have hlt3 : (k : Int) < (tl.length : Int) := by omega
      have hk0 : (0 : Int) ≤ (k : Int) := by omega
      have hkd : k < ds.length := by rw [HDL.out]; exact hlt
      obtain ⟨_, _, e, y0⟩ := (HC5.out.go HBW.out).at hkd
      cases e
      rw [Nat.zero_add] at y0
      have HP := Lib.hid (show plc 4611686018427387904 ds (k + 1) = if ds[k] < 4611686018427387904 then plc 4611686018427387904 ds k ++ [(k : Int)] else plc 4611686018427387904 ds k by
        show (if ds.getD k 0 < 4611686018427387904 then _ else _) = _
        rw [show ds.getD k 0 = ds[k] by simp [List.getD, hkd]])
      generalize ds[k] = x at *
      have hpl := plc_len 4611686018427387904 ds k
      have hz := HBW.out.size
      have HZ := Lib.hid (And.intro (And.intro hpl hk) hz)
      clear hkd hpl hz
      by_cases hx : x < 4611686018427387904
      · have HP2 := Lib.hid (HP.out.trans (if_pos hx))
        have hg : decide (x < 4611686018427387904) = true := by simpa using hx
        clear HP hx
        generalize plc 4611686018427387904 ds k = pl at *
        go_upto_region 10 with (at_builtin; go_must (refine wpList_app W5.heap.size 3 _ 1 8 elem_int Tryz.underlying25 u12 pl.length _ ⟨wr.heap.size, 0, none⟩ 1 1 [.int .i64 (k : Int)] rfl rfl (World.ownsRow.alloc HR.out _) (cell_one_new _ _ _) (one_cells rfl) ⟨rfl, by decide, (by have := HZ.out.1; have := HTL.out; omega), (by have := HZ.out.1; have := HTL.out; omega), (by have := HZ.out.2; simp; omega)⟩ ?_); intro g7 cap7 w7 hown hgr hbl hat hlt7; (have HR7 := Lib.hid hown); (have HB7 := Lib.hid ((HBW.out.al _).trans hbl)); clear hown hgr hbl hat hlt7)
        go_wp2
        go_roundg (tl.length - (k + 1))
        case measure => omega
        case rel => exact ⟨k + 1, by omega, Nat.le_refl _, by go_num, by rw [HP2.out, List.length_append, List.map_append]; exact HR7.out, HB7.out⟩
      · have HP2 := Lib.hid (HP.out.trans (if_neg hx))
        have hg : decide (x < 4611686018427387904) = false := by simpa using hx
        clear HP hx
        go_wp2
        go_roundg (tl.length - (k + 1))
        case measure => omega
        case rel => exact ⟨k + 1, by omega, Nat.le_refl _, by go_num, by rw [HP2.out]; exact HR.out, HBW.out⟩
    · obtain rfl : k = tl.length := by omega
      have HPL := Lib.hid (plc_len 4611686018427387904 ds tl.length)
      have HRX := Lib.hid HR.out
      rw [← HDL.out] at HRX
      clear HR
      generalize hpl : plc 4611686018427387904 ds ds.length = pl at HRX
      have hro := HRX.out.2
      rcases hro with ⟨rfl, h0⟩ | ⟨g, cap, cur, rfl, hrest⟩
      · have hpl0 : pl = [] := List.eq_nil_of_length_eq_zero h0
        have HSN := Lib.hid (fun fv W => SortStable_nil fv 0 W)
        go_wp2_with (go_at_call 101; refine (HSN.out _ _).mono ?_; rintro e w2 ⟨⟨v, rfl⟩, rfl⟩)
        refine bodyPost_ret (v := .tuple #[.slice none (min (max nn 0) 0).toNat (min (max nn 0) 0).toNat, .int .i64 0]) (by simp [results, Tryz.results63, go_sem]; try rfl) rfl ?_
        refine HNP.out _ _ ⟨[], none, (min (max nn 0) 0).toNat, ⟨?_, fun i j x y _ _ _ hx => by simp at hx⟩, ?_, rfl, by rw [List.take_nil]; exact Cel.nil _ _, HB5.out.st HBW⟩
        · rw [hpl, hpl0]
        · simp
          omega
      · have HS := Lib.hid (fun (h : ds.length ≤ 20) => sort_post (ds := ds) (X := X) (base := W5.heap.size) (g := g) (cp := cap) (N := pl.length) (l := pl) (w0 := W5) (w := wr) HBX.out rfl HBW.out HRX.out hpl.symm h)
        have HS2 := Lib.hid (HS.out (by rw [HDL.out]; exact HTL.out))
        clear hrest HS HRX
        go_upto_region 12 with (go_at_call 101; refine HS2.out.mono ?_; rintro e w2 ⟨⟨v, rfl⟩, L, HL, HRL, HBL⟩)
        have hcp := cap_of_ownsI HRL.out
        have HLL := Lib.hid (RowI.len HRL.out)
        have hz0 : 0 ≤ min (max nn 0) (pl.length : Int) := by omega
        have hz1 : min (max nn 0) (pl.length : Int) ≤ (cap : Int) := by omega
        have hz2 : min (max nn 0) (pl.length : Int) ≤ min (max nn 0) (pl.length : Int) := by omega
        clear hcp
        go_wp2
        refine bodyPost_ret (v := .tuple #[.slice (some ⟨g, 0, none⟩) (min (max nn 0) (pl.length : Int)).toNat (min (max nn 0) (pl.length : Int)).toNat, .int .i64 0]) (by simp [results, Tryz.results63, go_sem]; try rfl) rfl ?_
        obtain ⟨ao9, cp9, e9, hc9⟩ := Cel.of_owns HRL.out
        cases e9
        refine HNP.out _ _ ⟨L, some ⟨g, 0, none⟩, (min (max nn 0) (pl.length : Int)).toNat, HL.out, ?_, rfl, ?_, HB5.out.st HBL.out⟩
        · rw [HLL.out, Int.toNat_of_nonneg hz0]
        · intro i u hu
          refine hc9 i u ?_
          rw [List.getElem?_map] at hu ⊢
          rcases Nat.lt_or_ge i (min (max nn 0) (pl.length : Int)).toNat with h9 | h9
          · rwa [List.getElem?_take_of_lt h9] at hu
          · rw [List.getElem?_eq_none (by rw [List.length_take]; omega)] at hu
            cases hu
end Go.Proofs.YtkdomobedfhhgaaGreat
end

section
namespace Go.Proofs.YtkdomobedfhhgaaGreat
open Go Go.Proofs Go.RowKit
section
variable {a : Act} {P : Program} {Q : Exit → Act → World → Prop} {w : World}
/-- slots that no operation ahead of the last one writes -/
def offB (l : List Oper) (n t : Nat) : Bool := (List.range n).all fun i => dstAt l i != t
end
end Go.Proofs.YtkdomobedfhhgaaGreat
end

section
namespace Go.Proofs.YtkdomobedfhhgaaGreat
open Go Go.Proofs Go.RowKit
section
variable {a : Act} {P : Program} {Q : Exit → Act → World → Prop} {w : World}
theorem wp_region_grows_act {id : Nat} {l : List Oper} (n : Nat) (hln : l.length = n) (R : Nat → Value → World → Prop) (hm : P.follows .mixedOrders = true) (hB : growB l a.tmps.size = true)
    (hmono : ∀ i v w w', Below w.heap.size w w' → R i v w → R i v w')
    (hop : opsAll (fun i o => ∀ (act : Act) w', Below w.heap.size w w' → (∀ j, depB l i j = true → R j (act.tmps.getD (dstAt l j) undef) w') → (∀ t, offB l n t = true → act.tmps.getD t undef = a.tmps.getD t undef) →
      ∀ K : Act → World → Prop, (∀ v w'', Below w'.heap.size w' w'' → R i v w'' → K (act.put o.dst v) w'') → o.wp P act w' K Q) 0 l)
    (hend : ∀ (vs : Nat → Value) w', Below w.heap.size w w' → (∀ i, i < n → R i (vs i) w') → Q .normal (puts a (dstAt l) vs n) w') : (Code.region id l.toArray true).wp P Q a w := by
  subst hln
  have hg := fun i (hi : i < l.length) => growB_at hB (List.getElem?_eq_getElem hi)
  have hD : ∀ i, i < l.length → dstAt l i < a.tmps.size := fun i hi => (hg i hi).2.2.1
  have hinj : ∀ i j, i < l.length → j < l.length → dstAt l i = dstAt l j → i = j := fun i j hi hj e => by
    rcases Nat.lt_trichotomy i j with k | k | k
    · exact absurd e ((hg j hj).2.2.2.2 i k)
    · exact k
    · exact absurd e.symm ((hg i hi).2.2.2.2 j k)
  have hon : ∀ vs j, j < l.length → (puts a (dstAt l) vs l.length).tmps.getD (dstAt l j) undef = vs j := fun vs j hj => by
    rw [Array.getD_eq_getD_getElem?, puts_on hinj hj (hD j hj)]
    rfl
  have hoff : ∀ vs t, offB l l.length t = true → (puts a (dstAt l) vs l.length).tmps.getD t undef = a.tmps.getD t undef := fun vs t ht => by
    rw [Array.getD_eq_getD_getElem?, Array.getD_eq_getD_getElem?, puts_off (fun i hi e => by
      have := List.all_eq_true.1 ht i (List.mem_range.2 hi)
      simp [e] at this)]
  refine wp_region_grows (fun i v g _ w => g = [] ∧ R i v w) hm hB (fun i v g vs w w' hb h => ⟨h.1, hmono i v w w' hb h.2⟩) (fun i v g vs vs' w _ h => h) ?_ (fun vs gs w' hb hR _ _ => hend vs w' hb (fun i hi => (hR i hi).2))
  have key : ∀ (k : Nat) (ll : List Oper), (∀ i o, ll[i]? = some o → l[k + i]? = some o ∧ k + i < l.length) → opsAll (fun i o => ∀ (act : Act) w', Below w.heap.size w w' → (∀ j, depB l i j = true → R j (act.tmps.getD (dstAt l j) undef) w') → (∀ t, offB l l.length t = true → act.tmps.getD t undef = a.tmps.getD t undef) →
      ∀ K : Act → World → Prop, (∀ v w'', Below w'.heap.size w' w'' → R i v w'' → K (act.put o.dst v) w'') → o.wp P act w' K Q) k ll → opsAll (fun i o => ∀ (vs : Nat → Value) w', Below w.heap.size w w' → (∀ j, depB l i j = true → ∃ g : List Nat, g = [] ∧ R j (vs j) w') →
      ∀ K : Act → World → Prop, (∀ v g w'', Below w'.heap.size w' w'' → (g = [] ∧ R i v w'') → (∀ k ∈ g, w'.heap.size ≤ k ∧ k < w''.heap.size) → K ((puts a (dstAt l) vs l.length).put o.dst v) w'') → o.wp P (puts a (dstAt l) vs l.length) w' K Q) k ll := by
    intro k ll
    induction ll generalizing k with
    | nil => intro _ _; trivial
    | cons o ll ih =>
      intro hll h
      refine ⟨fun vs w' hb hd K hK => ?_, ih (k + 1) (fun i o' hi => by
        have := hll (i + 1) o' (by simpa using hi)
        rw [show k + 1 + i = k + (i + 1) by omega]
        exact this) h.2⟩
      obtain ⟨h0, h1⟩ := hll 0 o rfl
      rw [Nat.add_zero] at h0 h1
      refine h.1 _ w' hb (fun j hj => ?_) (fun t ht => hoff vs t ht) K (fun v w'' hb2 hr => hK v [] w'' hb2 ⟨rfl, hr⟩ (fun _ h => nomatch h))
      have hj2 : j < l.length := by
        have h3 := (growB_at hB h0).2.2.2.1
        unfold depB at hj
        simp only [h0] at hj
        obtain ⟨e, he, k2⟩ := List.any_eq_true.1 hj
        simp only [Bool.and_eq_true, beq_iff_eq] at k2
        have := h3 e (Array.mem_toList_iff.1 he) k2.1
        omega
      rw [hon vs j hj2]
      exact (hd j hj).choose_spec.2
  exact key 0 l (fun i o hi => by
    have hl := (List.getElem?_eq_some_iff.1 hi).1
    rw [Nat.zero_add]
    exact ⟨hi, hl⟩) hop
end
end Go.Proofs.YtkdomobedfhhgaaGreat
end
