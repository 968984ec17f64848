/-
  Walks: are two rows of routes, and two replies, the same; the document's form of a reply; is it small.
-/
import Derived.Test.YtelcmkccfjdmjaaGreatDoorProg
import Derived.Test.YtelcmkccfjdmjaaGreatDoorRpP
namespace Go.Proofs.YtelcmkccfjdmjaaGreatDoor
open Go Go.Proofs Go.RowKit Go.Shelf Go.Sort

set_option maxRecDepth 100000 in
set_option maxHeartbeats 2000000 in
theorem refRoutes_any (ta tb : List RtC) (ao bo : Option Addr) (ca cb : Nat) (w : World) (hla : ta.length ≤ 1000000) (hlb : tb.length ≤ 1000000) (ha : Cel w ao (flatR ta)) (hb : Cel w bo (flatR tb)) (hta : Lie w ta) (htb : Lie w tb) :
    Calls Tryz.prog 37 #[.slice ao ta.length ca, .slice bo tb.length cb] w fun e w' => e = .returned (.bool (decide (ta.map (·.r) = tb.map (·.r)))) ∧ Below w.heap.size w w' := by
  have HA := Lib.hid ha
  have HB := Lib.hid hb
  have HTA := Lib.hid hta
  have HTB := Lib.hid htb
  clear ha hb hta htb
  by_cases hl : ta.length = tb.length
  · have hn2 : ((ta.length : Int) != (tb.length : Int)) = false := by simp; omega
    have HN := Lib.hid hl
    clear hl
    have HD := Lib.hid (fun k (h1 : k < ta.length) (h2 : ta[k].r ≠ (tb[k]'(by have := HN.out; omega)).r) => (decide_eq_false (fun e => h2 (by
      have h3 : (ta.map (·.r))[k]? = (tb.map (·.r))[k]? := by rw [e]
      rw [List.getElem?_map, List.getElem?_map, List.getElem?_eq_getElem h1, List.getElem?_eq_getElem (show k < tb.length by have := HN.out; omega)] at h3
      simpa using h3)) : decide (ta.map (·.r) = tb.map (·.r)) = false))
    have HE := Lib.hid (fun h : (∀ j (h : j < ta.length), ta[j].r = (tb[j]'(by have := HN.out; omega)).r) => (decide_eq_true (List.ext_getElem (by simpa using HN.out) (fun i h1 h2 => by
      rw [mapR_get (by simpa using h1) h1, mapR_get (by simpa using h2) h2]
      exact h i (by simpa using h1))) : decide (ta.map (·.r) = tb.map (·.r)) = true))
    generalize decide (ta.map (·.r) = tb.map (·.r)) = r at *
    go_enter Tryz.func37, Tryz.ntmps37
    go_wp2
    go_loopg [5] ta.length (fun g i wr => ∃ k : Nat, k ≤ ta.length ∧ ta.length - k ≤ g ∧ i = .int .i64 k ∧ Aside (Below w.heap.size w wr) ∧ Aside (∀ j (h : j < ta.length), j < k → ta[j].r = (tb[j]'(by have := HN.out; omega)).r))
    case atStart => exact ⟨0, Nat.zero_le _, by omega, rfl, Below.refl _ _, fun j _ h => absurd h (Nat.not_lt_zero _)⟩
    case round =>
      obtain ⟨k, hk, hg, rfl, HW, HF⟩ := hrel
      by_cases hlt : k < ta.length
      · have hlt2 : k < tb.length := by have := HN.out; omega
        have hlt3 : (k : Int) < (ta.length : Int) := by omega
        have hlt4 : (k : Int) < (tb.length : Int) := by omega
        have hk0 : (0 : Int) ≤ (k : Int) := by omega
        obtain ⟨b1, o1, hao, x0, x1⟩ := (HA.out.go HW.out).rt hlt
        obtain ⟨b2, o2, hbo, y0, y1⟩ := (HB.out.go HW.out).rt hlt2
        subst hao hbo
        have HD2 := Lib.hid (HD.out k hlt)
        have HM := Lib.hid (fun h : ta[k].r = tb[k].r => (fun j (h1 : j < ta.length) (h2 : j < k + 1) => (by
          by_cases e : j = k
          · subst e; exact h
          · exact HF.out j h1 (by omega) : ta[j].r = (tb[j]'(by have := HN.out; omega)).r)))
        have H1 := Lib.hid ((HTA.out.go HW.out) ta[k] (List.getElem_mem hlt))
        have H2 := Lib.hid ((HTB.out.go HW.out) tb[k] (List.getElem_mem hlt2))
        generalize ta[k] = x at *
        generalize tb[k] = y at *
        obtain ⟨xa, xc, xr⟩ := x
        obtain ⟨ya, yc, yr⟩ := y
        simp only at x0 x1 y0 y1 HD2 HM H1 H2
        have X0 := fun p => cell_ext p x0
        have X1 := fun p => cell_ext p x1
        have Y0 := fun p => cell_ext p y0
        have Y1 := fun p => cell_ext p y1
        have XC := Lib.hid (fun p => H1.out.1.go (below_ext wr p))
        have XD := Lib.hid (fun p => H2.out.1.go (below_ext wr p))
        have HS := Lib.hid (fun W h1 h2 => refCmp_any xa ya xc yc xr.es yr.es xr.w yr.w W (by have := H1.out.2; omega) (by have := H2.out.2; omega) h1 h2)
        have hz := cmpR_zero xr yr
        generalize cmpR xr.w xr.es yr.w yr.es = cz at *
        by_cases hq : xr = yr
        · rw [decide_eq_true hq] at hz
          have HM2 := Lib.hid (HM.out hq)
          have hz2 : (cz != 0) = false := by simpa using hz
          clear hq HD2 HM hz
          go_wp2
          refine wp_region_ext (by kernel_rfl) (by kernel_rfl) ?_
          repeat (go_big_quiet_step ((go_at_call 86; exact Calls.ext_of (HS.out _ (XC.out _) (XD.out _)))))
          refine wpQuiet_nil ?_
          rintro _ ⟨p5, rfl⟩
          have HB5 := Lib.hid (below_ext wr p5)
          generalize ext wr p5 = w5 at HB5 ⊢
          go_wp2
          go_roundg (ta.length - (k + 1))
          case measure => omega
          case rel => exact ⟨k + 1, by omega, by omega, by go_num, HW.out.st HB5.out, HM2.out⟩
        · rw [decide_eq_false hq] at hz
          have HD3 := Lib.hid (HD2.out hq)
          have hz2 : (cz != 0) = true := by simpa using hz
          clear hq HD2 HM hz
          go_wp2
          refine wp_region_ext (by kernel_rfl) (by kernel_rfl) ?_
          repeat (go_big_quiet_step ((go_at_call 86; exact Calls.ext_of (HS.out _ (XC.out _) (XD.out _)))))
          refine wpQuiet_nil ?_
          rintro _ ⟨p5, rfl⟩
          have HB5 := Lib.hid (below_ext wr p5)
          generalize ext wr p5 = w5 at HB5 ⊢
          go_wp2
          go_ret
          exact ⟨by rw [HD3.out]; rfl, HW.out.st HB5.out⟩
      · obtain rfl : k = ta.length := by omega
        go_wp2
        go_ret
        exact ⟨by rw [HE.out (fun j h => HF.out j h h)]; rfl, HW.out⟩
  · have hn2 : ((ta.length : Int) != (tb.length : Int)) = true := by simp; omega
    have HN := Lib.hid (decide_eq_false (fun e => hl (by have := congrArg List.length e; simpa using this)) : decide (ta.map (·.r) = tb.map (·.r)) = false)
    clear hl
    go_enter Tryz.func37, Tryz.ntmps37
    go_wp2
    go_ret
    exact ⟨by rw [HN.out]; rfl, Below.refl _ _⟩

/-- the document's form of a reply -/
theorem ReplyOf_any (r : RepD) (v : Value) (w : World) (hv : RepV w r v) : Calls Tryz.prog 12 #[v] w fun e w' => e = .returned v ∧ Below w.heap.size w w' := by
  obtain ⟨an, cn, ar, cr, aw, cw, ts, rfl, -⟩ := hv
  go_enter Tryz.func12, Tryz.ntmps12
  go_wp2
  obtain ⟨W1, hW1⟩ : ∃ W1, W1 = (w.alloc (Obj.cells #[.int .i64 r.f, .string r.name, .slice an r.nums.length cn, .slice ar r.rts.length cr, .slice aw r.words.length cw] 28)).alloc (Obj.cells #[.int .i64 r.f, .string r.name, .slice an r.nums.length cn, .slice ar r.rts.length cr, .slice aw r.words.length cw] 31) := ⟨_, rfl⟩
  obtain ⟨r0, r1, r2, r3, r4, -⟩ : P5 W1 (w.heap.size + 1) (.int .i64 r.f) (.string r.name) (.slice an r.nums.length cn) (.slice ar r.rts.length cr) (.slice aw r.words.length cw) := by
    rw [hW1]
    have h := P5.new (w.alloc (Obj.cells #[.int .i64 r.f, .string r.name, .slice an r.nums.length cn, .slice ar r.rts.length cr, .slice aw r.words.length cw] 28)) 31 (.int .i64 r.f) (.string r.name) (.slice an r.nums.length cn) (.slice ar r.rts.length cr) (.slice aw r.words.length cw)
    simpa using h
  have hb1 : Below w.heap.size w W1 := by rw [hW1]; exact (Below.of_al _ _).al _
  rw [← hW1]
  clear hW1
  refine bodyPost_ret (v := .agg #[.int .i64 r.f, .string r.name, .slice an r.nums.length cn, .slice ar r.rts.length cr, .slice aw r.words.length cw]) (by simp [results, Tryz.results12, go_sem, r0, r1, r2, r3, r4]; try rfl) rfl ?_
  exact ⟨rfl, hb1⟩

/-- a reply whose routes are not too long -/
def lowE (r : RepD) : Prop := ∀ x ∈ r.rts, x.es.length ≤ 1000000
/-- the routes of a reply -/
theorem lie_of {w : World} {ts : List RtC} {r : RepD} (h : ∀ t ∈ ts, Cel w t.ao (t.r.es.map encI)) (he : ts.map (·.r) = r.rts) (hl : lowE r) : Lie w ts := fun t ht => ⟨h t ht, hl t.r (by rw [← he]; exact List.mem_map_of_mem ht)⟩

theorem repD_eq (a b : RepD) : decide (a = b) = (decide (a.f = b.f) && decide (a.name = b.name) && decide (a.nums = b.nums) && decide (a.rts = b.rts) && decide (a.words = b.words)) := by
  obtain ⟨f, n, l, r, ws⟩ := a
  obtain ⟨f', n', l', r', ws'⟩ := b
  by_cases h : (⟨f, n, l, r, ws⟩ : RepD) = ⟨f', n', l', r', ws'⟩
  · cases h
    simp
  · rw [decide_eq_false h]
    symm
    simp only [Bool.and_eq_false_iff, decide_eq_false_iff_not]
    by_cases e1 : f = f'
    · by_cases e2 : n = n'
      · by_cases e3 : l = l'
        · by_cases e4 : r = r'
          · by_cases e5 : ws = ws'
            · subst e1 e2 e3 e4 e5
              exact absurd rfl h
            · exact .inr e5
          · exact .inl (.inr e4)
        · exact .inl (.inl (.inr e3))
      · exact .inl (.inl (.inl (.inr e2)))
    · exact .inl (.inl (.inl (.inl e1)))

set_option maxRecDepth 100000 in
set_option maxHeartbeats 4000000 in
theorem ReplySame_any (a b : RepD) (va vb : Value) (w : World) (ha : RepV w a va) (hb : RepV w b vb) (la : lowR a) (lb : lowR b) (ea : lowE a) (eb : lowE b) (za : a.rts.length ≤ 1000000) (zb : b.rts.length ≤ 1000000) :
    Calls Tryz.prog 19 #[va, vb] w fun e w' => e = .returned (.bool (decide (a = b))) ∧ Below w.heap.size w w' := by
  obtain ⟨an, cn, ar, cr, aw, cw, ts, rfl, han, har, haw, hat, hac⟩ := ha
  obtain ⟨bn, dn, br, dr, bw, dw, us, rfl, hbn, hbr, hbw, hbt, hbc⟩ := hb
  have HL1 := Lib.hid (lie_of hac hat ea)
  have HL2 := Lib.hid (lie_of hbc hbt eb)
  have e1 : ts.length = a.rts.length := by rw [← hat]; simp
  have e2 : us.length = b.rts.length := by rw [← hbt]; simp
  have HAN := Lib.hid han
  have HAR := Lib.hid har
  have HAW := Lib.hid haw
  have HBN := Lib.hid hbn
  have HBR := Lib.hid hbr
  have HBW := Lib.hid hbw
  have HQ1 := Lib.hid (fun W h1 h2 => (eqWide_any an bn cn dn a.nums b.nums W (by have := la.1; omega) (by have := lb.1; omega) h1 h2).mono (fun e w' ⟨he, n, hn⟩ => (⟨he, hn ▸ Below.of_dr W n⟩ : e = Ending.returned (.bool (decide (a.nums = b.nums))) ∧ Below W.heap.size W w')))
  have HQ2 := Lib.hid (fun W h1 h2 h3 h4 => equalFuncR_any ts us ar br cr dr W (by omega) (by omega) h1 h2 h3 h4)
  rw [hat, hbt, e1, e2] at HQ2
  have HQ3 := Lib.hid (fun W h1 h2 => (eqWords_any aw bw cw dw a.words b.words W (by have := la.2.2; omega) (by have := lb.2.2; omega) h1 h2).mono (fun e w' ⟨he, n, hn⟩ => (⟨he, hn ▸ Below.of_dr W n⟩ : e = Ending.returned (.bool (decide (a.words = b.words))) ∧ Below W.heap.size W w')))
  obtain ⟨B1, hB1⟩ : ∃ B1, B1 = (w.alloc (Obj.cells #[.int .i64 a.f, .string a.name, .slice an a.nums.length cn, .slice ar a.rts.length cr, .slice aw a.words.length cw] 28)).alloc (Obj.cells #[.int .i64 b.f, .string b.name, .slice bn b.nums.length dn, .slice br b.rts.length dr, .slice bw b.words.length dw] 28) := ⟨_, rfl⟩
  have HK1 := Lib.hid (show P5 B1 w.heap.size (.int .i64 a.f) (.string a.name) (.slice an a.nums.length cn) (.slice ar a.rts.length cr) (.slice aw a.words.length cw) by rw [hB1]; exact (P5.new _ _ _ _ _ _ _).go (Below.of_al _ _))
  have HK2 := Lib.hid (show P5 B1 (w.heap.size + 1) (.int .i64 b.f) (.string b.name) (.slice bn b.nums.length dn) (.slice br b.rts.length dr) (.slice bw b.words.length dw) by
    rw [hB1]
    have h := P5.new (w.alloc (Obj.cells #[.int .i64 a.f, .string a.name, .slice an a.nums.length cn, .slice ar a.rts.length cr, .slice aw a.words.length cw] 28)) 28 (.int .i64 b.f) (.string b.name) (.slice bn b.nums.length dn) (.slice br b.rts.length dr) (.slice bw b.words.length dw)
    simpa using h)
  have HKB := Lib.hid (show Below w.heap.size w B1 by rw [hB1]; exact (Below.of_al _ _).al _)
  have HBE := Lib.hid hB1.symm
  clear hB1
  have HV := Lib.hid (repD_eq a b)
  have hfe : (a.f == b.f) = decide (a.f = b.f) := by by_cases h : a.f = b.f <;> simp [h]
  have hne : (a.name.toList == b.name.toList) = decide (a.name = b.name) := byt_eq (by rw [ByteArray.toList_eq])
  generalize decide (a = b) = q at *
  generalize decide (a.f = b.f) = q1 at *
  generalize decide (a.name = b.name) = q2 at *
  generalize decide (a.nums = b.nums) = q3 at *
  generalize decide (a.rts = b.rts) = q4 at *
  generalize decide (a.words = b.words) = q5 at *
  clear han har haw hat hac hbn hbr hbw hbt hbc e1 e2
  cases q1 with
  | false => (go_enter Tryz.func19, Tryz.ntmps19; go_wp2_with (first | (go_at_call 55; rw [HBE.out]; refine (HQ1.out _ (HAN.out.go HKB.out) (HBN.out.go HKB.out)).mono ?_; rintro e w1 ⟨rfl, hb1⟩; obtain ⟨x0, x1, x2, x3, x4, -⟩ := HK1.out.go hb1; obtain ⟨y0, y1, y2, y3, y4, -⟩ := HK2.out.go hb1) | (go_at_call 56; refine (HQ2.out _ (HAR.out.go (HKB.out.st hb1)) (HBR.out.go (HKB.out.st hb1)) (HL1.out.go (HKB.out.st hb1)) (HL2.out.go (HKB.out.st hb1))).mono ?_; rintro e w2 ⟨rfl, hb2⟩; obtain ⟨x0, x1, x2, x3, x4, -⟩ := HK1.out.go (hb1.st hb2); obtain ⟨y0, y1, y2, y3, y4, -⟩ := HK2.out.go (hb1.st hb2)) | (go_at_call 58; refine (HQ3.out _ (HAW.out.go ((HKB.out.st hb1).st hb2)) (HBW.out.go ((HKB.out.st hb1).st hb2))).mono ?_; rintro e w3 ⟨rfl, hb3⟩)); go_ret; exact ⟨by rw [HV.out]; rfl, by first | (exact ((HKB.out.st hb1).st hb2).st hb3) | (exact (HKB.out.st hb1).st hb2) | (exact HKB.out.st hb1) | (rw [HBE.out]; exact HKB.out)⟩)
  | true =>
    cases q2 with
    | false => (go_enter Tryz.func19, Tryz.ntmps19; go_wp2_with (first | (go_at_call 55; rw [HBE.out]; refine (HQ1.out _ (HAN.out.go HKB.out) (HBN.out.go HKB.out)).mono ?_; rintro e w1 ⟨rfl, hb1⟩; obtain ⟨x0, x1, x2, x3, x4, -⟩ := HK1.out.go hb1; obtain ⟨y0, y1, y2, y3, y4, -⟩ := HK2.out.go hb1) | (go_at_call 56; refine (HQ2.out _ (HAR.out.go (HKB.out.st hb1)) (HBR.out.go (HKB.out.st hb1)) (HL1.out.go (HKB.out.st hb1)) (HL2.out.go (HKB.out.st hb1))).mono ?_; rintro e w2 ⟨rfl, hb2⟩; obtain ⟨x0, x1, x2, x3, x4, -⟩ := HK1.out.go (hb1.st hb2); obtain ⟨y0, y1, y2, y3, y4, -⟩ := HK2.out.go (hb1.st hb2)) | (go_at_call 58; refine (HQ3.out _ (HAW.out.go ((HKB.out.st hb1).st hb2)) (HBW.out.go ((HKB.out.st hb1).st hb2))).mono ?_; rintro e w3 ⟨rfl, hb3⟩)); go_ret; exact ⟨by rw [HV.out]; rfl, by first | (exact ((HKB.out.st hb1).st hb2).st hb3) | (exact (HKB.out.st hb1).st hb2) | (exact HKB.out.st hb1) | (rw [HBE.out]; exact HKB.out)⟩)
    | true =>
      cases q3 with
      | false => (go_enter Tryz.func19, Tryz.ntmps19; go_wp2_with (first | (go_at_call 55; rw [HBE.out]; refine (HQ1.out _ (HAN.out.go HKB.out) (HBN.out.go HKB.out)).mono ?_; rintro e w1 ⟨rfl, hb1⟩; obtain ⟨x0, x1, x2, x3, x4, -⟩ := HK1.out.go hb1; obtain ⟨y0, y1, y2, y3, y4, -⟩ := HK2.out.go hb1) | (go_at_call 56; refine (HQ2.out _ (HAR.out.go (HKB.out.st hb1)) (HBR.out.go (HKB.out.st hb1)) (HL1.out.go (HKB.out.st hb1)) (HL2.out.go (HKB.out.st hb1))).mono ?_; rintro e w2 ⟨rfl, hb2⟩; obtain ⟨x0, x1, x2, x3, x4, -⟩ := HK1.out.go (hb1.st hb2); obtain ⟨y0, y1, y2, y3, y4, -⟩ := HK2.out.go (hb1.st hb2)) | (go_at_call 58; refine (HQ3.out _ (HAW.out.go ((HKB.out.st hb1).st hb2)) (HBW.out.go ((HKB.out.st hb1).st hb2))).mono ?_; rintro e w3 ⟨rfl, hb3⟩)); go_ret; exact ⟨by rw [HV.out]; rfl, by first | (exact ((HKB.out.st hb1).st hb2).st hb3) | (exact (HKB.out.st hb1).st hb2) | (exact HKB.out.st hb1) | (rw [HBE.out]; exact HKB.out)⟩)
      | true =>
        cases q4 with
        | false => (go_enter Tryz.func19, Tryz.ntmps19; go_wp2_with (first | (go_at_call 55; rw [HBE.out]; refine (HQ1.out _ (HAN.out.go HKB.out) (HBN.out.go HKB.out)).mono ?_; rintro e w1 ⟨rfl, hb1⟩; obtain ⟨x0, x1, x2, x3, x4, -⟩ := HK1.out.go hb1; obtain ⟨y0, y1, y2, y3, y4, -⟩ := HK2.out.go hb1) | (go_at_call 56; refine (HQ2.out _ (HAR.out.go (HKB.out.st hb1)) (HBR.out.go (HKB.out.st hb1)) (HL1.out.go (HKB.out.st hb1)) (HL2.out.go (HKB.out.st hb1))).mono ?_; rintro e w2 ⟨rfl, hb2⟩; obtain ⟨x0, x1, x2, x3, x4, -⟩ := HK1.out.go (hb1.st hb2); obtain ⟨y0, y1, y2, y3, y4, -⟩ := HK2.out.go (hb1.st hb2)) | (go_at_call 58; refine (HQ3.out _ (HAW.out.go ((HKB.out.st hb1).st hb2)) (HBW.out.go ((HKB.out.st hb1).st hb2))).mono ?_; rintro e w3 ⟨rfl, hb3⟩)); go_ret; exact ⟨by rw [HV.out]; rfl, by first | (exact ((HKB.out.st hb1).st hb2).st hb3) | (exact (HKB.out.st hb1).st hb2) | (exact HKB.out.st hb1) | (rw [HBE.out]; exact HKB.out)⟩)
        | true => (go_enter Tryz.func19, Tryz.ntmps19; go_wp2_with (first | (go_at_call 55; rw [HBE.out]; refine (HQ1.out _ (HAN.out.go HKB.out) (HBN.out.go HKB.out)).mono ?_; rintro e w1 ⟨rfl, hb1⟩; obtain ⟨x0, x1, x2, x3, x4, -⟩ := HK1.out.go hb1; obtain ⟨y0, y1, y2, y3, y4, -⟩ := HK2.out.go hb1) | (go_at_call 56; refine (HQ2.out _ (HAR.out.go (HKB.out.st hb1)) (HBR.out.go (HKB.out.st hb1)) (HL1.out.go (HKB.out.st hb1)) (HL2.out.go (HKB.out.st hb1))).mono ?_; rintro e w2 ⟨rfl, hb2⟩; obtain ⟨x0, x1, x2, x3, x4, -⟩ := HK1.out.go (hb1.st hb2); obtain ⟨y0, y1, y2, y3, y4, -⟩ := HK2.out.go (hb1.st hb2)) | (go_at_call 58; refine (HQ3.out _ (HAW.out.go ((HKB.out.st hb1).st hb2)) (HBW.out.go ((HKB.out.st hb1).st hb2))).mono ?_; rintro e w3 ⟨rfl, hb3⟩)); go_ret; exact ⟨by rw [HV.out]; rfl, by first | (exact ((HKB.out.st hb1).st hb2).st hb3) | (exact (HKB.out.st hb1).st hb2) | (exact HKB.out.st hb1) | (rw [HBE.out]; exact HKB.out)⟩)

set_option maxRecDepth 100000 in
set_option maxHeartbeats 4000000 in
theorem refReplySame_any (a b : RepD) (va vb : Value) (w : World) (ha : RepV w a va) (hb : RepV w b vb) (la : lowR a) (lb : lowR b) (ea : lowE a) (eb : lowE b) (za : a.rts.length ≤ 1000000) (zb : b.rts.length ≤ 1000000) :
    Calls Tryz.prog 11 #[va, vb] w fun e w' => e = .returned (.bool (decide (a = b))) ∧ Below w.heap.size w w' := by
  obtain ⟨an, cn, ar, cr, aw, cw, ts, rfl, han, har, haw, hat, hac⟩ := ha
  obtain ⟨bn, dn, br, dr, bw, dw, us, rfl, hbn, hbr, hbw, hbt, hbc⟩ := hb
  have HL1 := Lib.hid (lie_of hac hat ea)
  have HL2 := Lib.hid (lie_of hbc hbt eb)
  have e1 : ts.length = a.rts.length := by rw [← hat]; simp
  have e2 : us.length = b.rts.length := by rw [← hbt]; simp
  have HAN := Lib.hid han
  have HAR := Lib.hid har
  have HAW := Lib.hid haw
  have HBN := Lib.hid hbn
  have HBR := Lib.hid hbr
  have HBW := Lib.hid hbw
  have HQ1 := Lib.hid (fun W h1 h2 => (sameWide_any an bn cn dn a.nums b.nums W (by have := la.1; omega) (by have := lb.1; omega) h1 h2).mono (fun e w' ⟨he, n, hn⟩ => (⟨he, hn ▸ Below.of_dr W n⟩ : e = Ending.returned (.bool (decide (a.nums = b.nums))) ∧ Below W.heap.size W w')))
  have HQ2 := Lib.hid (fun W h1 h2 h3 h4 => refRoutes_any ts us ar br cr dr W (by omega) (by omega) h1 h2 h3 h4)
  rw [hat, hbt, e1, e2] at HQ2
  have HQ3 := Lib.hid (fun W h1 h2 => (sameWords_any aw bw cw dw a.words b.words W (by have := la.2.2; omega) (by have := lb.2.2; omega) h1 h2).mono (fun e w' ⟨he, n, hn⟩ => (⟨he, hn ▸ Below.of_dr W n⟩ : e = Ending.returned (.bool (decide (a.words = b.words))) ∧ Below W.heap.size W w')))
  obtain ⟨B1, hB1⟩ : ∃ B1, B1 = (w.alloc (Obj.cells #[.int .i64 a.f, .string a.name, .slice an a.nums.length cn, .slice ar a.rts.length cr, .slice aw a.words.length cw] 31)).alloc (Obj.cells #[.int .i64 b.f, .string b.name, .slice bn b.nums.length dn, .slice br b.rts.length dr, .slice bw b.words.length dw] 31) := ⟨_, rfl⟩
  have HK1 := Lib.hid (show P5 B1 w.heap.size (.int .i64 a.f) (.string a.name) (.slice an a.nums.length cn) (.slice ar a.rts.length cr) (.slice aw a.words.length cw) by rw [hB1]; exact (P5.new _ _ _ _ _ _ _).go (Below.of_al _ _))
  have HK2 := Lib.hid (show P5 B1 (w.heap.size + 1) (.int .i64 b.f) (.string b.name) (.slice bn b.nums.length dn) (.slice br b.rts.length dr) (.slice bw b.words.length dw) by
    rw [hB1]
    have h := P5.new (w.alloc (Obj.cells #[.int .i64 a.f, .string a.name, .slice an a.nums.length cn, .slice ar a.rts.length cr, .slice aw a.words.length cw] 31)) 31 (.int .i64 b.f) (.string b.name) (.slice bn b.nums.length dn) (.slice br b.rts.length dr) (.slice bw b.words.length dw)
    simpa using h)
  have HKB := Lib.hid (show Below w.heap.size w B1 by rw [hB1]; exact (Below.of_al _ _).al _)
  have HBE := Lib.hid hB1.symm
  clear hB1
  have HV := Lib.hid (repD_eq a b)
  have hfe : (a.f == b.f) = decide (a.f = b.f) := by by_cases h : a.f = b.f <;> simp [h]
  have hne : (a.name.toList == b.name.toList) = decide (a.name = b.name) := byt_eq (by rw [ByteArray.toList_eq])
  generalize decide (a = b) = q at *
  generalize decide (a.f = b.f) = q1 at *
  generalize decide (a.name = b.name) = q2 at *
  generalize decide (a.nums = b.nums) = q3 at *
  generalize decide (a.rts = b.rts) = q4 at *
  generalize decide (a.words = b.words) = q5 at *
  clear han har haw hat hac hbn hbr hbw hbt hbc e1 e2
  cases q1 with
  | false => (go_enter Tryz.func11, Tryz.ntmps11; go_wp2_with (first | (go_at_call 36; rw [HBE.out]; refine (HQ1.out _ (HAN.out.go HKB.out) (HBN.out.go HKB.out)).mono ?_; rintro e w1 ⟨rfl, hb1⟩; obtain ⟨x0, x1, x2, x3, x4, -⟩ := HK1.out.go hb1; obtain ⟨y0, y1, y2, y3, y4, -⟩ := HK2.out.go hb1) | (go_at_call 37; refine (HQ2.out _ (HAR.out.go (HKB.out.st hb1)) (HBR.out.go (HKB.out.st hb1)) (HL1.out.go (HKB.out.st hb1)) (HL2.out.go (HKB.out.st hb1))).mono ?_; rintro e w2 ⟨rfl, hb2⟩; obtain ⟨x0, x1, x2, x3, x4, -⟩ := HK1.out.go (hb1.st hb2); obtain ⟨y0, y1, y2, y3, y4, -⟩ := HK2.out.go (hb1.st hb2)) | (go_at_call 38; refine (HQ3.out _ (HAW.out.go ((HKB.out.st hb1).st hb2)) (HBW.out.go ((HKB.out.st hb1).st hb2))).mono ?_; rintro e w3 ⟨rfl, hb3⟩)); go_ret; exact ⟨by rw [HV.out]; rfl, by first | (exact ((HKB.out.st hb1).st hb2).st hb3) | (exact (HKB.out.st hb1).st hb2) | (exact HKB.out.st hb1) | (rw [HBE.out]; exact HKB.out)⟩)
  | true =>
    cases q2 with
    | false => (go_enter Tryz.func11, Tryz.ntmps11; go_wp2_with (first | (go_at_call 36; rw [HBE.out]; refine (HQ1.out _ (HAN.out.go HKB.out) (HBN.out.go HKB.out)).mono ?_; rintro e w1 ⟨rfl, hb1⟩; obtain ⟨x0, x1, x2, x3, x4, -⟩ := HK1.out.go hb1; obtain ⟨y0, y1, y2, y3, y4, -⟩ := HK2.out.go hb1) | (go_at_call 37; refine (HQ2.out _ (HAR.out.go (HKB.out.st hb1)) (HBR.out.go (HKB.out.st hb1)) (HL1.out.go (HKB.out.st hb1)) (HL2.out.go (HKB.out.st hb1))).mono ?_; rintro e w2 ⟨rfl, hb2⟩; obtain ⟨x0, x1, x2, x3, x4, -⟩ := HK1.out.go (hb1.st hb2); obtain ⟨y0, y1, y2, y3, y4, -⟩ := HK2.out.go (hb1.st hb2)) | (go_at_call 38; refine (HQ3.out _ (HAW.out.go ((HKB.out.st hb1).st hb2)) (HBW.out.go ((HKB.out.st hb1).st hb2))).mono ?_; rintro e w3 ⟨rfl, hb3⟩)); go_ret; exact ⟨by rw [HV.out]; rfl, by first | (exact ((HKB.out.st hb1).st hb2).st hb3) | (exact (HKB.out.st hb1).st hb2) | (exact HKB.out.st hb1) | (rw [HBE.out]; exact HKB.out)⟩)
    | true =>
      cases q3 with
      | false => (go_enter Tryz.func11, Tryz.ntmps11; go_wp2_with (first | (go_at_call 36; rw [HBE.out]; refine (HQ1.out _ (HAN.out.go HKB.out) (HBN.out.go HKB.out)).mono ?_; rintro e w1 ⟨rfl, hb1⟩; obtain ⟨x0, x1, x2, x3, x4, -⟩ := HK1.out.go hb1; obtain ⟨y0, y1, y2, y3, y4, -⟩ := HK2.out.go hb1) | (go_at_call 37; refine (HQ2.out _ (HAR.out.go (HKB.out.st hb1)) (HBR.out.go (HKB.out.st hb1)) (HL1.out.go (HKB.out.st hb1)) (HL2.out.go (HKB.out.st hb1))).mono ?_; rintro e w2 ⟨rfl, hb2⟩; obtain ⟨x0, x1, x2, x3, x4, -⟩ := HK1.out.go (hb1.st hb2); obtain ⟨y0, y1, y2, y3, y4, -⟩ := HK2.out.go (hb1.st hb2)) | (go_at_call 38; refine (HQ3.out _ (HAW.out.go ((HKB.out.st hb1).st hb2)) (HBW.out.go ((HKB.out.st hb1).st hb2))).mono ?_; rintro e w3 ⟨rfl, hb3⟩)); go_ret; exact ⟨by rw [HV.out]; rfl, by first | (exact ((HKB.out.st hb1).st hb2).st hb3) | (exact (HKB.out.st hb1).st hb2) | (exact HKB.out.st hb1) | (rw [HBE.out]; exact HKB.out)⟩)
      | true =>
        cases q4 with
        | false => (go_enter Tryz.func11, Tryz.ntmps11; go_wp2_with (first | (go_at_call 36; rw [HBE.out]; refine (HQ1.out _ (HAN.out.go HKB.out) (HBN.out.go HKB.out)).mono ?_; rintro e w1 ⟨rfl, hb1⟩; obtain ⟨x0, x1, x2, x3, x4, -⟩ := HK1.out.go hb1; obtain ⟨y0, y1, y2, y3, y4, -⟩ := HK2.out.go hb1) | (go_at_call 37; refine (HQ2.out _ (HAR.out.go (HKB.out.st hb1)) (HBR.out.go (HKB.out.st hb1)) (HL1.out.go (HKB.out.st hb1)) (HL2.out.go (HKB.out.st hb1))).mono ?_; rintro e w2 ⟨rfl, hb2⟩; obtain ⟨x0, x1, x2, x3, x4, -⟩ := HK1.out.go (hb1.st hb2); obtain ⟨y0, y1, y2, y3, y4, -⟩ := HK2.out.go (hb1.st hb2)) | (go_at_call 38; refine (HQ3.out _ (HAW.out.go ((HKB.out.st hb1).st hb2)) (HBW.out.go ((HKB.out.st hb1).st hb2))).mono ?_; rintro e w3 ⟨rfl, hb3⟩)); go_ret; exact ⟨by rw [HV.out]; rfl, by first | (exact ((HKB.out.st hb1).st hb2).st hb3) | (exact (HKB.out.st hb1).st hb2) | (exact HKB.out.st hb1) | (rw [HBE.out]; exact HKB.out)⟩)
        | true => (go_enter Tryz.func11, Tryz.ntmps11; go_wp2_with (first | (go_at_call 36; rw [HBE.out]; refine (HQ1.out _ (HAN.out.go HKB.out) (HBN.out.go HKB.out)).mono ?_; rintro e w1 ⟨rfl, hb1⟩; obtain ⟨x0, x1, x2, x3, x4, -⟩ := HK1.out.go hb1; obtain ⟨y0, y1, y2, y3, y4, -⟩ := HK2.out.go hb1) | (go_at_call 37; refine (HQ2.out _ (HAR.out.go (HKB.out.st hb1)) (HBR.out.go (HKB.out.st hb1)) (HL1.out.go (HKB.out.st hb1)) (HL2.out.go (HKB.out.st hb1))).mono ?_; rintro e w2 ⟨rfl, hb2⟩; obtain ⟨x0, x1, x2, x3, x4, -⟩ := HK1.out.go (hb1.st hb2); obtain ⟨y0, y1, y2, y3, y4, -⟩ := HK2.out.go (hb1.st hb2)) | (go_at_call 38; refine (HQ3.out _ (HAW.out.go ((HKB.out.st hb1).st hb2)) (HBW.out.go ((HKB.out.st hb1).st hb2))).mono ?_; rintro e w3 ⟨rfl, hb3⟩)); go_ret; exact ⟨by rw [HV.out]; rfl, by first | (exact ((HKB.out.st hb1).st hb2).st hb3) | (exact (HKB.out.st hb1).st hb2) | (exact HKB.out.st hb1) | (rw [HBE.out]; exact HKB.out)⟩)

/-- is a reply small -/
def lightH (r : RepD) : Bool := decide (r.name.size ≤ 100) && decide (r.nums.length ≤ 60) && decide (r.rts.length ≤ 20) && decide (r.words.length ≤ 20)
def lightB (r : RepD) : Bool := lightH r && r.rts.all (fun x => decide (x.es.length ≤ 60)) && r.words.all (fun x => decide (x.size ≤ 100))

set_option maxRecDepth 100000 in
set_option maxHeartbeats 4000000 in
theorem light_any (r : RepD) (v : Value) (w : World) (hv : RepV w r v) (hz : r.name.size ≤ 9223372036854775807 ∧ r.nums.length ≤ 9223372036854775807 ∧ r.rts.length ≤ 9223372036854775807 ∧ r.words.length ≤ 9223372036854775807) (hes : ∀ x ∈ r.rts, x.es.length ≤ 9223372036854775807) (hws : ∀ x ∈ r.words, x.size ≤ 9223372036854775807) :
    Calls Tryz.prog 13 #[v] w fun e w' => e = .returned (.bool (lightB r)) ∧ Below w.heap.size w w' := by
  obtain ⟨an, cn, ar, cr, aw, cw, ts, rfl, -, har, haw, hat, -⟩ := hv
  obtain ⟨z1, z2, z3, z4⟩ := hz
  have e1 : ts.length = r.rts.length := by rw [← hat]; simp
  have HAR := Lib.hid har
  have HAW := Lib.hid haw
  have hV0 : lightB r = (lightH r && r.rts.all (fun x => decide (x.es.length ≤ 60)) && r.words.all (fun x => decide (x.size ≤ 100))) := rfl
  by_cases hh : lightH r = true
  · have HV := Lib.hid (show lightB r = (ts.all (fun t => decide (t.r.es.length ≤ 60)) && r.words.all (fun x => decide (x.size ≤ 100))) by rw [hV0, hh, ← hat, List.all_map]; rfl)
    unfold lightH at hh
    simp only [Bool.and_eq_true, decide_eq_true_eq] at hh
    obtain ⟨⟨⟨h1, h2⟩, h3⟩, h4⟩ := hh
    have g1 : ¬ (100 : Int) < (r.name.size : Int) := by omega
    have g2 : ¬ (60 : Int) < (r.nums.length : Int) := by omega
    have g3 : ¬ (20 : Int) < (r.rts.length : Int) := by omega
    have g4 : ¬ (20 : Int) < (r.words.length : Int) := by omega
    have HE := Lib.hid (fun t (ht : t ∈ ts) => hes t.r (by rw [← hat]; exact List.mem_map_of_mem ht))
    have HN := Lib.hid e1
    generalize lightB r = q at *
    clear hV0 h1 h2 h3 h4 hat e1 hes har haw
    go_enter Tryz.func13, Tryz.ntmps13
    go_wp2
    obtain ⟨B1, hB1⟩ : ∃ B1, B1 = w.alloc (Obj.cells #[.int .i64 r.f, .string r.name, .slice an r.nums.length cn, .slice ar r.rts.length cr, .slice aw r.words.length cw] 28) := ⟨_, rfl⟩
    obtain ⟨x0, x1, x2, x3, x4, -⟩ : P5 B1 w.heap.size (.int .i64 r.f) (.string r.name) (.slice an r.nums.length cn) (.slice ar r.rts.length cr) (.slice aw r.words.length cw) := by rw [hB1]; exact P5.new _ _ _ _ _ _ _
    have HB := Lib.hid (show Below w.heap.size w B1 by rw [hB1]; exact Below.of_al _ _)
    rw [← hB1]
    clear hB1 g1 g2 g3 g4
    go_loopg [3] r.rts.length (fun g i wr => ∃ k : Nat, k ≤ r.rts.length ∧ r.rts.length - k ≤ g ∧ i = .int .i64 k ∧ wr = B1 ∧ Aside (∀ j (h : j < ts.length), j < k → ts[j].r.es.length ≤ 60))
    case atStart => exact ⟨0, Nat.zero_le _, by omega, rfl, rfl, fun j _ h => absurd h (Nat.not_lt_zero _)⟩
    case round =>
      obtain ⟨k, hk, hg, rfl, rfl, HF⟩ := hrel
      have hk0 : (0 : Int) ≤ (k : Int) := by omega
      by_cases hlt : k < r.rts.length
      · have hlt3 : (k : Int) < (r.rts.length : Int) := by omega
        have hltt : k < ts.length := by have := HN.out; omega
        obtain ⟨b1, o1, hao, y0, y1⟩ := (HAR.out.go HB.out).rt hltt
        subst hao
        have HQ := Lib.hid (HE.out ts[k] (List.getElem_mem hltt))
        by_cases hq : ts[k].r.es.length ≤ 60
        · have hq2 : ¬ (60 : Int) < (ts[k].r.es.length : Int) := by omega
          have HM := Lib.hid (fun j (h1 : j < ts.length) (h2 : j < k + 1) => (by
            by_cases e : j = k
            · subst e; exact hq
            · exact HF.out j h1 (by omega) : ts[j].r.es.length ≤ 60))
          generalize ts[k] = x at *
          clear hq
          go_wp2
          go_roundg (r.rts.length - (k + 1))
          case measure => omega
          case rel => exact ⟨k + 1, by omega, by omega, by go_num, rfl, HM.out⟩
        · have hq2 : (60 : Int) < (ts[k].r.es.length : Int) := by omega
          have HV2 := Lib.hid (show q = false by
            rw [HV.out, Bool.and_eq_false_iff]
            refine .inl ?_
            rw [List.all_eq_false]
            exact ⟨ts[k], List.getElem_mem hltt, by simpa using hq⟩)
          generalize ts[k] = x at *
          clear hq
          go_wp2
          go_ret
          exact ⟨by rw [HV2.out]; rfl, HB.out⟩
      · obtain rfl : k = r.rts.length := by omega
        have HV2 := Lib.hid (show q = r.words.all (fun x => decide (x.size ≤ 100)) by
          rw [HV.out, List.all_eq_true.2 (fun t ht => by
            obtain ⟨j, hj, rfl⟩ := List.mem_iff_getElem.1 ht
            simpa using HF.out j hj (by have := HN.out; omega)), Bool.true_and])
        clear HV
        obtain ⟨B2, hB2⟩ : ∃ B2, B2 = wr := ⟨_, rfl⟩
        subst hB2
        go_wp2
        go_loopg [4] r.words.length (fun g i wr => ∃ k : Nat, k ≤ r.words.length ∧ r.words.length - k ≤ g ∧ i = .int .i64 k ∧ wr = B2 ∧ Aside (∀ j (h : j < r.words.length), j < k → r.words[j].size ≤ 100))
        case atStart => exact ⟨0, Nat.zero_le _, by omega, rfl, rfl, fun j _ h => absurd h (Nat.not_lt_zero _)⟩
        case round =>
          obtain ⟨k, hk, hg, rfl, rfl, HF2⟩ := hrel
          have hk0 : (0 : Int) ≤ (k : Int) := by omega
          by_cases hlt : k < r.words.length
          · have hlt3 : (k : Int) < (r.words.length : Int) := by omega
            obtain ⟨b1, o1, hao, y0⟩ := (HAW.out.go HB.out).at hlt
            subst hao
            have hwx := hws r.words[k] (List.getElem_mem hlt)
            by_cases hq : r.words[k].size ≤ 100
            · have hq2 : ¬ (100 : Int) < (r.words[k].size : Int) := by omega
              have HM := Lib.hid (fun j (h1 : j < r.words.length) (h2 : j < k + 1) => (by
                by_cases e : j = k
                · subst e; exact hq
                · exact HF2.out j h1 (by omega) : r.words[j].size ≤ 100))
              generalize r.words[k] = x at *
              clear hq
              go_wp2
              go_roundg (r.words.length - (k + 1))
              case measure => omega
              case rel => exact ⟨k + 1, by omega, by omega, by go_num, rfl, HM.out⟩
            · have hq2 : (100 : Int) < (r.words[k].size : Int) := by omega
              have HV3 := Lib.hid (show q = false by
                rw [HV2.out, List.all_eq_false]
                exact ⟨r.words[k], List.getElem_mem hlt, by simpa using hq⟩)
              generalize r.words[k] = x at *
              clear hq
              go_wp2
              go_ret
              exact ⟨by rw [HV3.out]; rfl, HB.out⟩
          · obtain rfl : k = r.words.length := by omega
            have HV3 := Lib.hid (show q = true by
              rw [HV2.out, List.all_eq_true.2 (fun x hx => by
                obtain ⟨j, hj, rfl⟩ := List.mem_iff_getElem.1 hx
                simpa using HF2.out j hj hj)])
            go_wp2
            go_ret
            exact ⟨by rw [HV3.out]; rfl, HB.out⟩
  · have HV := Lib.hid (show lightB r = false by rw [hV0]; simp at hh; rw [hh]; rfl)
    unfold lightH at hh
    simp only [Bool.and_eq_true, decide_eq_true_eq] at hh
    generalize lightB r = q at *
    clear hV0 hat e1 hes hws har haw HAR HAW
    by_cases h1 : r.name.size ≤ 100
    · have g1 : ¬ (100 : Int) < (r.name.size : Int) := by omega
      by_cases h2 : r.nums.length ≤ 60
      · have g2 : ¬ (60 : Int) < (r.nums.length : Int) := by omega
        by_cases h3 : r.rts.length ≤ 20
        · have g3 : ¬ (20 : Int) < (r.rts.length : Int) := by omega
          have g4 : (20 : Int) < (r.words.length : Int) := by omega
          (clear hh; go_enter Tryz.func13, Tryz.ntmps13; go_wp2; go_ret; exact ⟨by rw [HV.out]; rfl, Below.of_al _ _⟩)
        · have g3 : (20 : Int) < (r.rts.length : Int) := by omega
          (clear hh; go_enter Tryz.func13, Tryz.ntmps13; go_wp2; go_ret; exact ⟨by rw [HV.out]; rfl, Below.of_al _ _⟩)
      · have g2 : (60 : Int) < (r.nums.length : Int) := by omega
        (clear hh; go_enter Tryz.func13, Tryz.ntmps13; go_wp2; go_ret; exact ⟨by rw [HV.out]; rfl, Below.of_al _ _⟩)
    · have g1 : (100 : Int) < (r.name.size : Int) := by omega
      (clear hh; go_enter Tryz.func13, Tryz.ntmps13; go_wp2; go_ret; exact ⟨by rw [HV.out]; rfl, Below.of_al _ _⟩)

end Go.Proofs.YtelcmkccfjdmjaaGreatDoor
