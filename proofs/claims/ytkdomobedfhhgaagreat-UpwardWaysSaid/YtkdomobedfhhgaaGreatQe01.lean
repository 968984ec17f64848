/-
  Walk of package upward: Exact.
  What the laws of upward ask of labels, in plain Lean.
-/
import Derived.Test.YtkdomobedfhhgaaGreatProg
import Derived.Test.YtkdomobedfhhgaaGreatQd05
import Derived.Test.YtkdomobedfhhgaaGreatQb33
import Derived.Test.YtkdomobedfhhgaaGreatQb31
import Derived.Test.YtkdomobedfhhgaaGreatQd01
import Derived.Test.YtkdomobedfhhgaaGreatQc01
set_option linter.unusedVariables false
set_option linter.unusedSimpArgs false
set_option linter.unnecessarySimpa false
section
namespace Go.Proofs.YtkdomobedfhhgaaGreat
open Go Go.Proofs Go.RowKit Go.Shelf Go.Proofs.YtkdomobedfhhgaaGreat.Hp Go.Proofs.YtkdomobedfhhgaaGreat.Ch

theorem flatB_setb : ∀ (l : List LB) (i : Nat) (q : LB) (b : Int), l[i]? = some q → (flatB l).set (i * 3 + 2) (.int .i64 b) = flatB (l.set i ⟨q.v, q.d, b⟩)
  | [], i, q, b, h => by simp at h
  | x :: l, 0, q, b, h => by cases h; rfl
  | x :: l, i + 1, q, b, h => by
    rw [show (i + 1) * 3 + 2 = i * 3 + 2 + 1 + 1 + 1 by omega]
    show _ = _ :: _ :: _ :: flatB (l.set i _)
    rw [← flatB_setb l i q b (by simpa using h)]
    rfl
/-- what Exact gives -/
def ExactPost (es : List EdgeD) (n : Nat) (R : List Int) (S : List SC) (ro : List Int) (back : Bool) (s : Nat) (w : World) (e : Ending) (w' : World) : Prop :=
  ∃ (ao : Option Addr) (cap : Nat) (l : List LB), e = .returned (.tuple #[.slice ao l.length cap, .int .i64 0]) ∧ Cel w' ao (flatB l) ∧ Below w.heap.size w w' ∧ ExIs (relB back (arcG es)) (rk ro) (s : Int) l ∧ (∀ a ∈ l, a.b = firstS R S (labF l) back a.v a.d) ∧ l.length ≤ n ∧ ∀ a ∈ l, nodeN n a.v ∧ 0 ≤ a.d ∧ a.d ≤ 211106232532992
theorem withB_b (R : List Int) (S : List SC) (back : Bool) (l : List LB) : ∀ a ∈ withB R S back l, a.b = firstS R S (labF (withB R S back l)) back a.v a.d := by
  have hl : labF (withB R S back l) = labF l := labF_cong (by simp [withB, Function.comp_def])
  intro a ha
  rw [hl]
  unfold withB at ha
  obtain ⟨y, _, rfl⟩ := List.mem_map.1 ha
  rfl
set_option maxRecDepth 100000 in
set_option maxHeartbeats 4000000 in
theorem exact_any (hb n : Nat) (es : List EdgeD) (R : List Int) (S : List SC) (ro : List Int) (back : Bool) (s : Nat) (w : World) (hh : HierM w hb n es R S (rowsK R S n S.length).1 (rowsK R S n S.length).2) (hok : HierOK es n R S ro) (hn : n ≤ 12) (hs : s < n) :
    Calls Tryz.prog 33 #[.pointer (some ⟨hb, 0, none⟩), .int .i64 (s : Int), .bool back] w (ExactPost es n R S ro back s w) := by
  have HH := Lib.hid (fun W (hz : Below w.heap.size w W) => hh.same (fun k hk => hz.block k hk))
  have HSA := Lib.hid (space_any hb n es R S ro s back w hh hok hn hs)
  have HSW := Lib.hid (fun l ao cap W (hz : Below w.heap.size w W) hc hsp hl => sweep_any hb n es R S ro back s l ao cap W (hh.go hz) hok hn hs hc hsp hl)
  have HOK := Lib.hid hok
  unfold SpacePost at HSA
  unfold SweepPost at HSW
  clear hh hok
  go_enter Tryz.func33, Tryz.ntmps33
  go_upto_region 4 with (go_at_call 29; refine HSA.out.mono ?_; rintro e w1 ⟨ao, cap, l, rfl, h1, h2, h3, h4, h5, h6⟩; (have HC1 := Lib.hid h1); (have HB1 := Lib.hid h2); (have HS1 := Lib.hid h3); (have HL1 := Lib.hid (And.intro h4 h5)); (have HO1 := Lib.hid h6); clear h1 h2 h3 h4 h5 h6)
  go_upto_region 5 with (go_at_call 84; refine (HSW.out l ao cap w1 HB1.out HC1.out HS1.out HL1.out.1).mono ?_; rintro e w2 ⟨fb, f, rfl, h1, h2, h3, h4, h5⟩; (have HF2 := Lib.hid h1); (have HFL := Lib.hid h2); (have HFB := Lib.hid h3); (have HB2 := Lib.hid h4); (have HFV := Lib.hid h5); clear h1 h2 h3 h4 h5)
  obtain ⟨W3, hW3⟩ : ∃ W3, W3 = w2.alloc (Obj.cells #[.slice (some ⟨fb, 0, none⟩) n n] 41) := ⟨_, rfl⟩
  rw [← hW3]
  have hb23 : Below w2.heap.size w2 W3 := by rw [hW3]; exact Below.of_al _ _
  have cB : W3.cell? ⟨w2.heap.size, 0, none⟩ = some (.slice (some ⟨fb, 0, none⟩) n n) := by rw [hW3]; go_simp
  have hL := labsOK HOK.out HS1.out hs hn
  have hrow : ∀ k, (Value.slice ao l.length cap).ownBlock = some k → k < w1.heap.size := fun k e => (HO1.out.lt k e).2
  have HDEL := Lib.hid (delLab_any w.heap.size #[.pointer (some ⟨w2.heap.size, 0, none⟩)] (fun a => decide (gD f a.v < a.d)) l ao cap W3 (hp_owns_go (hp_owns_go HO1.out HB2.out) hb23) (fun W x ho hx => by
    have hs2 := HB2.out.size
    have hfb := HFB.out
    refine exact1_any x w2.heap.size fb n f W (ho.cell cB (fun e => by have h9 : w2.heap.size < w1.heap.size := hrow _ e; omega)) ?_ HFL.out (hL x hx).1
    exact cel_off (HF2.out.go hb23) ho (n := n) (c := n) (fun k hk e => by cases hk; have h9 : fb < w1.heap.size := hrow _ e; omega)) (by have := HL1.out.1; omega))
  have hex := exactL_is (HOK.out.hierB back) (fun v => by unfold rk; omega) HS1.out HL1.out.2 (fun x hx => ⟨(hL x hx).1, by have := (hL x hx).2.2; unfold FAR; omega⟩) HFV.out
  have HEX := Lib.hid hex
  have HSUB := Lib.hid (show ∀ a ∈ exactL f l, nodeN n a.v ∧ 0 ≤ a.d ∧ a.d ≤ 211106232532992 from fun a ha => hL a (List.mem_filter.1 ha).1)
  have HLEN := Lib.hid (show (exactL f l).length ≤ n from Nat.le_trans (List.length_filter_le _ _) HL1.out.1)
  have HB3 := Lib.hid ((HB1.out.st HB2.out).st hb23)
  have HRW := Lib.hid (fun k (e : (Value.slice ao l.length cap).ownBlock = some k) => And.intro (HO1.out.lt k e).1 (show k < W3.heap.size from by have h1 := hrow k e; have h2 := HB2.out.size; have h3 := hb23.size; omega))
  unfold DelPostL at HDEL
  rw [show l.filter (fun a => !decide (gD f a.v < a.d)) = exactL f l from rfl] at HDEL
  clear hW3 hL hrow hex hb23 cB HSA HSW HC1 HB1 HS1 HL1 HO1 HF2 HFL HFB HB2 HFV
  generalize exactL f l = out at *
  go_upto_region 7 with (go_at_call 85; refine HDEL.out.mono ?_; rintro e w4 ⟨rfl, h1, h2⟩; (have HO4 := Lib.hid h1); (have HF4 := Lib.hid h2); clear h1 h2)
  obtain ⟨W5, hW5⟩ : ∃ W5, W5 = w4.alloc (Obj.cells #[.pointer (some ⟨hb, 0, none⟩), .bool back] 137) := ⟨_, rfl⟩
  rw [← hW5]
  have hb45 : Below w4.heap.size w4 W5 := by rw [hW5]; exact Below.of_al _ _
  have c0 : W5.cell? ⟨w4.heap.size, 0, none⟩ = some (.pointer (some ⟨hb, 0, none⟩)) := by rw [hW5]; go_simp
  have c1 : W5.cell? ⟨w4.heap.size, 1, none⟩ = some (.bool back) := by rw [hW5]; go_simp
  have hrow4 : ∀ k, (Value.slice ao out.length cap).ownBlock = some k → w.heap.size ≤ k ∧ k ≠ w4.heap.size := fun k e => by
    have h1 := HRW.out k (by cases ao <;> exact e)
    have h2 := HF4.out.size
    omega
  have HRO := Lib.hid hrow4
  have hbl4 : Below w.heap.size w w4 := HB3.out.trans (HF4.out.below HB3.out.size (fun k e => (HRW.out k e).1))
  have HO5 := Lib.hid (show W5.ownsRow w.heap.size 64 3 (.slice ao out.length cap) out.length (flatB (mixB R S back out 0)) by rw [mixB_zero]; exact hp_owns_go HO4.out hb45)
  have HB5 := Lib.hid (hbl4.st hb45)
  have HCW := Lib.hid (And.intro c0 c1)
  have hl2 : (out.length : Int) ≤ 12 := by have := HLEN.out; omega
  clear hW5 hb45 c0 c1 hrow4 hbl4 HO4 HF4 HB3 HRW HDEL
  go_wp2
  go_loopg [34] out.length (fun gg v34 wr => ∃ k : Nat, k ≤ out.length ∧ out.length - k ≤ gg ∧ v34 = .int .i64 k ∧ Aside (wr.ownsRow w.heap.size 64 3 (.slice ao out.length cap) out.length (flatB (mixB R S back out k))) ∧ Aside (Below w.heap.size w wr) ∧ Aside (wr.cell? ⟨w4.heap.size, 0, none⟩ = some (.pointer (some ⟨hb, 0, none⟩)) ∧ wr.cell? ⟨w4.heap.size, 1, none⟩ = some (.bool back)))
  case atStart => exact ⟨0, Nat.zero_le _, by omega, rfl, HO5.out, HB5.out, HCW.out⟩
  case round =>
    clear HO5 HB5 HCW
    obtain ⟨k, hk, hgg, rfl, HO, HB, HX⟩ := hrel
    by_cases hlt : k < out.length
    · have hlt3 : (k : Int) < (out.length : Int) := by omega
      have hk0 : (0 : Int) ≤ (k : Int) := by omega
      have hml : (mixB R S back out k).length = out.length := mixB_len
      obtain ⟨g, cg, e⟩ := own_form HO.out (by omega)
      cases e
      obtain ⟨x0, x1, x2⟩ := flatB_get (mixB R S back out k) k (by omega)
      have hmk : (mixB R S back out k)[k]'(by omega) = out[k] := Option.some.inj ((List.getElem?_eq_getElem (by omega)).symm.trans (mixB_get hlt))
      rw [hmk] at x0 x1 x2
      have y0 := (HO.out.cellAt (k * 3) (by omega)).trans x0
      have y1 := (HO.out.cellAt (k * 3 + 1) (by omega)).trans x1
      have y2 := (HO.out.cellAt (k * 3 + 2) (by omega)).trans x2
      have zf := HO.out.frozenAt (k * 3 + 2)
      obtain ⟨ao9, cap9, e9, hce⟩ := Cel.of_owns HO.out
      cases e9
      have HFI := Lib.hid (fun p => first_any hb n es R S (rowsK R S n S.length).1 (rowsK R S n S.length).2 (mixB R S back out k) (some ⟨g, 0, none⟩) cap out[k] back (ext wr p) (HH.out _ (HB.out.st (below_ext wr p))) (fun x hx => by
          have h1 := HOK.out.ends x hx
          have h2 := HOK.out.big x hx
          have h3 := big12 hn
          exact ⟨h1.1, h1.2.1, by omega, by omega⟩) (hce.go (below_ext wr p)) (by omega) (fun x hx => by
          have hv : (x.v, x.d) ∈ out.map (fun a => (a.v, a.d)) := by rw [← mixB_vd R S back out k]; exact List.mem_map.2 ⟨x, hx, rfl⟩
          obtain ⟨y, hy, e⟩ := List.mem_map.1 hv
          have h1 := HSUB.out y hy
          have e2 : y.d = x.d := (Prod.mk.inj e).2
          omega))
      rw [labF_cong (mixB_vd R S back out k)] at HFI
      have HST := Lib.hid (show (flatB (mixB R S back out k)).set (k * 3 + 2) (.int .i64 (firstS R S (labF out) back out[k].v out[k].d)) = flatB (mixB R S back out (k + 1)) by rw [flatB_setb _ k out[k] _ (mixB_get hlt), mixB_set hlt])
      obtain ⟨c0, c1⟩ := HX.out
      rw [hml] at HFI
      clear x0 x1 x2 hce hmk HX
      generalize out[k] = a at *
      obtain ⟨av, ad, ab⟩ := a
      simp only [encL] at y0 y1 y2 HFI HST
      generalize firstS R S (labF out) back av ad = r at *
      have e0 := fun p => cell_ext p c0
      have e1 := fun p => cell_ext p c1
      have e2 := fun p => cell_ext p y0
      have e3 := fun p => cell_ext p y1
      have e4 := fun p => cell_ext p y2
      go_upto_region 10 with (fail)
      refine wp_region_ext_tail 11 (by kernel_rfl) (by kernel_rfl) ?_
      simp only [List.take_succ_cons, List.take_zero, List.drop_succ_cons, List.drop_zero]
      repeat (go_big_quiet_step ((go_at_call 87; exact Calls.ext_of (HFI.out _))))
      refine wpQuiet_nil ?_
      rintro _ ⟨p5, rfl⟩
      have HB5 := Lib.hid (below_ext wr p5)
      generalize ext wr p5 = w5 at HB5 ⊢
      have z5 := (HB5.out.frozen (p := ⟨g, k * 3 + 2, none⟩) (World.block_lt_of_cell? _ _ y2)).trans zf
      have q5 := cell_later HB5.out y2
      have HO6 := Lib.hid (show (w5.setCell ⟨g, k * 3 + 2, none⟩ (.int .i64 r)).ownsRow w.heap.size 64 3 (.slice (some ⟨g, 0, none⟩) out.length cap) out.length (flatB (mixB R S back out (k + 1))) by
        have h9 := ((hp_owns_go HO.out HB5.out).stored (k * 3 + 2) (.int .i64 r)).1
        rw [HST.out] at h9
        exact h9)
      have hgb := HRO.out g rfl
      have HB6 := Lib.hid (show Below w.heap.size w (w5.setCell ⟨g, k * 3 + 2, none⟩ (.int .i64 r)) from (HB.out.st HB5.out).setCell hgb.1 _)
      have HX6 := Lib.hid (show (w5.setCell ⟨g, k * 3 + 2, none⟩ (.int .i64 r)).cell? ⟨w4.heap.size, 0, none⟩ = some (.pointer (some ⟨hb, 0, none⟩)) ∧ (w5.setCell ⟨g, k * 3 + 2, none⟩ (.int .i64 r)).cell? ⟨w4.heap.size, 1, none⟩ = some (.bool back) from
        ⟨(World.cell?_of_block (a := ⟨w4.heap.size, 0, none⟩) (Below.heap_setCell _ _ _ _ (fun e => hgb.2 e.symm))).trans (cell_later HB5.out c0), (World.cell?_of_block (a := ⟨w4.heap.size, 1, none⟩) (Below.heap_setCell _ _ _ _ (fun e => hgb.2 e.symm))).trans (cell_later HB5.out c1)⟩)
      clear e0 e1 e2 e3 e4 y0 y1 y2 c0 c1 zf HFI hgb
      go_wp2
      go_roundg (out.length - (k + 1))
      case measure => omega
      case rel => exact ⟨k + 1, by omega, Nat.le_refl _, by go_num, HO6.out, HB6.out, HX6.out⟩
    · obtain rfl : k = out.length := by omega
      have hO := HO.out
      rw [mixB_all] at hO
      obtain ⟨ao9, cap9, e9, hce⟩ := Cel.of_owns hO
      cases e9
      have HC9 := Lib.hid hce
      have HL9 := Lib.hid (withB_len R S back out)
      clear hO hce
      go_wp2
      refine bodyPost_ret (v := .tuple #[.slice ao out.length cap, .int .i64 0]) (by simp [results, Tryz.results33, go_sem]; try rfl) rfl ?_
      exact ⟨ao, cap, withB R S back out, by rw [HL9.out], HC9.out, HB.out, HEX.out.withB R S back, withB_b R S back out, by rw [HL9.out]; exact HLEN.out, fun a ha => by
        unfold withB at ha
        obtain ⟨y, hy, rfl⟩ := List.mem_map.1 ha
        exact HSUB.out y hy⟩
end Go.Proofs.YtkdomobedfhhgaaGreat
end

section
namespace Go.Proofs.YtkdomobedfhhgaaGreat
open Go Go.Proofs Go.RowKit Go.Shelf Go.Proofs.YtkdomobedfhhgaaGreat.Hp Go.Proofs.YtkdomobedfhhgaaGreat.Ch

/-- the ends of a shortcut, as it is gone -/
abbrev frS (back : Bool) (x : SC) : Int := if back then x.t else x.f
abbrev toS (back : Bool) (x : SC) : Int := if back then x.f else x.t
/-- a label is such as must be -/
structure LabOK (n : Nat) (R : List Int) (S : List SC) (l : List LB) (s : Int) (back : Bool) (i : Nat) (h : i < l.length) : Prop where
  node : nodeN n l[i].v
  up : ∀ j (_ : j < i), (l[j]'(by omega)).v < l[i].v
  big : 0 ≤ l[i].d ∧ l[i].d ≤ 211106232532992
  way : (l[i].b = -1 ∧ l[i].v = s ∧ l[i].d = 0) ∨ ∃ j : Nat, ∃ hj : j < S.length, l[i].b = (j : Int) ∧ toS back S[j] = l[i].v ∧ labIs l (frS back S[j]) = true ∧ rAt R (frS back S[j]) < rAt R (toS back S[j]) ∧ (labAt l (frS back S[j])).d + S[j].w = l[i].d
theorem once_lab {l : List LB} (hp : l.Pairwise (fun a b => a.v ≠ b.v)) {x : LB} (hx : x ∈ l) : labIs l x.v = true ∧ (labAt l x.v).d = x.d := by
  have h1 : labIs l x.v = true := List.any_eq_true.2 ⟨x, hx, decide_eq_true rfl⟩
  obtain ⟨k1, _, _⟩ := labIs_some h1
  have h2 := (labF_spec hp x.v x.d).2 ⟨x, hx, rfl, rfl⟩
  rw [k1] at h2
  exact ⟨h1, Option.some.inj h2⟩
theorem space_once {A : Int → Int → Int → Prop} {X : Nums} {r : Int → Int} {s : Int} {l : List LB} (h : Space A X r s (l.map labOf)) : l.Pairwise (fun a b => a.v ≠ b.v) := by
  have h9 := h.once
  rw [List.pairwise_map] at h9
  exact h9
theorem space_labs {es : List EdgeD} {n : Nat} {R : List Int} {S : List SC} {ro : List Int} {s : Nat} {back : Bool} {l : List LB} (hok : HierOK es n R S ro) (hn : n ≤ 12) (hs : s < n) (h : Space (relB back (arcG es)) (XN S back) (rk ro) (s : Int) (l.map labOf)) (ho : l.Pairwise (fun a b => a.v ≤ b.v)) :
    ∀ i (hi : i < l.length), LabOK n R S l (s : Int) back i hi := by
  intro i hi
  have hL := labsOK hok h hs hn l[i] (List.getElem_mem hi)
  have hpw := space_once h
  refine ⟨hL.1, fun j hj => ?_, hL.2, ?_⟩
  · have h1 := List.pairwise_iff_getElem.1 ho j i (by omega) hi hj
    have h2 := List.pairwise_iff_getElem.1 hpw j i (by omega) hi hj
    omega
  · rcases h.way (labOf l[i]) (List.mem_map.2 ⟨l[i], List.getElem_mem hi, rfl⟩) with ⟨h1, h2, h3⟩ | ⟨x, w, ⟨y, h0, hy, hw, he⟩, hr, b, hb, h1, h2⟩
    · exact .inl ⟨h3, h1, h2⟩
    · have hy : S[(l[i].b).toNat]? = some y := hy
      obtain ⟨hj, e⟩ := List.getElem?_eq_some_iff.1 hy
      obtain ⟨z, hz, rfl⟩ := List.mem_map.1 hb
      have hends := hok.ends y (by rw [← e]; exact List.getElem_mem hj)
      obtain ⟨o1, o2⟩ := once_lab hpw hz
      have e1 : z.v = x := h1
      have e2 : z.d + w = l[i].d := h2
      have e3 : frS back y = x ∧ toS back y = l[i].v := by
        unfold frS toS
        cases back with
        | true => exact ⟨he.1, he.2⟩
        | false => exact ⟨he.1, he.2⟩
      have hnx : nodeN n (frS back y) ∧ nodeN n (toS back y) := by
        unfold frS toS
        cases back with
        | true => exact ⟨hends.2.1, hends.1⟩
        | false => exact ⟨hends.1, hends.2.1⟩
      have hbi : (labOf l[i]).b = l[i].b := rfl
      rw [hbi] at h0
      refine .inr ⟨(l[i].b).toNat, hj, by omega, ?_, ?_, ?_, ?_⟩
      · rw [e]; exact e3.2
      · rw [e, e3.1, ← e1]; exact o1
      · rw [e, rAt_rk hok hnx.1, rAt_rk hok hnx.2, e3.1, e3.2]; exact hr
      · rw [e, e3.1, ← e1, o2, hw]; exact e2
/-- a label that is no way off has no shortcut -/
theorem first_zero {R : List Int} {S : List SC} {f : Int → Option Int} {back : Bool} {v : Int} (hS : ∀ x ∈ S, 1 ≤ x.w) (hf : ∀ u e, f u = some e → 0 ≤ e) : firstS R S f back v 0 = -1 := by
  refine firstS_no fun k hk => ?_
  unfold hitS
  cases he : f (if back then S[k].t else S[k].f) with
  | none => simp
  | some e =>
    have h1 := hf _ _ he
    have h2 := hS _ (List.getElem_mem hk)
    have h3 : decide (e + S[k].w = 0) = false := decide_eq_false (by omega)
    simp [h3]
theorem ExIs.once {A : Int → Int → Int → Prop} {r : Int → Int} {s : Int} {l : List LB} (h : ExIs A r s l) : l.Pairwise (fun a b => a.v ≠ b.v) := h.1.imp fun {a b} k e => by omega
/-- where there are no arcs -/
theorem ExIs.one {A : Int → Int → Int → Prop} {r : Int → Int} {s : Int} {l : List LB} (hA : ∀ u v w, ¬ A u v w) (h : ExIs A r s l) : ∃ b, l = [⟨s, 0, b⟩] := by
  have key : ∀ x ∈ l, x.v = s ∧ x.d = 0 := by
    intro x hx
    have hp := (h.2 x.v x.d).1 ⟨x, hx, rfl, rfl⟩
    rcases hp.2.1.1 with ⟨e1, e2⟩ | hw
    · exact ⟨e1.symm, e2⟩
    · obtain ⟨m, w, k, _⟩ := hw.lastArc
      exact absurd k (hA _ _ _)
  obtain ⟨x, hx, h1, h2⟩ := (h.2 s 0).2 (Peak.self (fun u v w k => absurd k (hA _ _ _)) r s)
  match l, hx, h.1, key with
  | [y], hx, _, key =>
    obtain ⟨k1, k2⟩ := key y (List.mem_singleton.2 rfl)
    exact ⟨y.b, by cases y; simp only at k1 k2; rw [k1, k2]⟩
  | y :: z :: r, _, hp, key =>
    have k1 := (key y (by simp)).1
    have k2 := (key z (by simp)).1
    have := (List.pairwise_cons.1 hp).1 z (by simp)
    omega
/-- how far nodes are, of those that have a number -/
def ownF (own : List Int) (u : Int) : Option Int := if gD own u < FAR then some (gD own u) else none
end Go.Proofs.YtkdomobedfhhgaaGreat
end
