/-
  Walks of the document's package of replies: the fault of a word, and what a line would be.
-/
import Derived.Test.YtelcmkccfjdmjaaGreatDoorProg
import Derived.Test.YtelcmkccfjdmjaaGreatDoorRpU
import Derived.Test.YtelcmkccfjdmjaaGreatDoorRpL
import Derived.Test.YtelcmkccfjdmjaaGreatDoorRpD
namespace Go.Proofs.YtelcmkccfjdmjaaGreatDoor
open Go Go.Proofs Go.RowKit Go.Shelf Go.Sort

set_option maxRecDepth 100000 in
set_option maxHeartbeats 2000000 in
theorem ref04Of_any (s : ByteArray) (w : World) : Calls Tryz.prog 83 #[.string s] w fun e w' => e = .returned (.tuple #[.int .i64 (ofW s).1, .bool (ofW s).2]) ∧ Below w.heap.size w w' := by
  have HW := Lib.hid (fun W => ref04Words_any W)
  have HN := Lib.hid (fun k (hlt : k < faultL.length) (h : faultL[k] = s) hm => (by
    have h1 := idxI_hit (fun x => decide (x = s)) faultL k hlt (by simpa using h) hm
    unfold ofW
    rw [h1, if_neg (by omega)] : ofW s = ((k : Int), true)))
  have HM := Lib.hid (fun hm => (by
    have h1 := idxI_miss (fun x => decide (x = s)) faultL hm
    unfold ofW
    rw [h1, if_pos (by omega)] : ofW s = (0, false)))
  have hlen : faultL.length = 15 := rfl
  generalize ofW s = r at *
  generalize faultL = l at *
  go_enter Tryz.func83, Tryz.ntmps83
  go_wp2
  go_loopg [4] 15 (fun g i wr => ∃ k : Nat, k ≤ 15 ∧ 15 - k ≤ g ∧ i = .int .i64 k ∧ Aside (Below w.heap.size w wr) ∧ Aside (∀ j (h : j < l.length), j < k → decide (l[j] = s) = false))
  case atStart => exact ⟨0, Nat.zero_le _, by omega, rfl, Below.refl _ _, fun j _ h => absurd h (Nat.not_lt_zero _)⟩
  case round =>
    obtain ⟨k, hk, hg, rfl, HB, HA⟩ := hrel
    have hk0 : (0 : Int) ≤ (k : Int) := by omega
    by_cases hlt : k < 15
    · have hlt3 : (k : Int) < 15 := by omega
      have hltl : k < l.length := by omega
      have HC := Lib.hid (fun W b (h : Cel W (some ⟨b, 0, none⟩) (l.map encS)) => (by
        obtain ⟨b', o', e, hc⟩ := h.at hltl
        cases e
        rw [Nat.zero_add] at hc
        exact hc : W.cell? ⟨b, k, none⟩ = some (encS l[k])))
      by_cases hq : l[k] = s
      · have HR := Lib.hid (HN.out k hltl hq (fun j h1 h2 => by have := HA.out j h1 h2; simpa using this))
        rw [hq] at HC
        have hb : (s.toList == s.toList) = true := by simp
        clear hq hlen
        go_wp2_with fail
        refine (HW.out _).mono ?_
        rintro e w1 ⟨rfl, -, hb1⟩
        go_wp2_with fail
        refine (HW.out _).mono ?_
        rintro e w2 ⟨rfl, hc2, hb2⟩
        have hcell := HC.out _ _ hc2
        go_wp2
        refine bodyPost_ret (by simp [results, Tryz.results83, go_sem]; try rfl) rfl ?_
        exact ⟨by rw [HR.out], (HB.out.st hb1).st hb2⟩
      · have HA2 := Lib.hid (fun j (h1 : j < l.length) (h2 : j < k + 1) => (by
          by_cases e : j = k
          · subst e; simpa using hq
          · have := HA.out j h1 (by omega); simpa using this : decide (l[j] = s) = false))
        have hb : ((l[k]).toList == s.toList) = false := by
          rw [beq_eq_false_iff_ne]
          intro e
          rw [ByteArray.toList_eq, ByteArray.toList_eq] at e
          exact hq (Go.WideShapes.bytes_inj e)
        clear hq hlen
        generalize l[k] = x at *
        go_wp2_with fail
        refine (HW.out _).mono ?_
        rintro e w1 ⟨rfl, -, hb1⟩
        go_wp2_with fail
        refine (HW.out _).mono ?_
        rintro e w2 ⟨rfl, hc2, hb2⟩
        have hcell := HC.out _ _ hc2
        go_wp2
        go_roundg (15 - (k + 1))
        case measure => omega
        case rel => exact ⟨k + 1, by omega, by omega, by go_num, (HB.out.st hb1).st hb2, fun j h1 h2 => by have := HA2.out j h1 h2; simpa using this⟩
    · obtain rfl : k = 15 := by omega
      have HR := Lib.hid (HM.out (fun j h => by have := HA.out j h (by omega); simpa using this))
      go_wp2_with (go_at_call 39; refine (HW.out _).mono ?_; rintro e w1 ⟨rfl, hc1, hb1⟩)
      refine bodyPost_ret (by simp [results, Tryz.results83, go_sem]; try rfl) rfl ?_
      exact ⟨by rw [HR.out], HB.out.st hb1⟩

theorem one_at (x : Value) (w : World) (T : TypeId) {k : Nat} (hk : k = w.heap.size) : ∀ j u, [x][j]? = some u → (w.alloc (.cells #[x] T)).cell? ((⟨k, 0, none⟩ : Addr).add j) = some u := by
  subst hk
  exact rt_one x w T
theorem rp_oner (ao : Option Addr) (n c : Nat) (x : Int) : ∀ u ∈ [Value.slice ao n c, .int .u64 x], u.oneCell' = true := by
  intro u hu
  simp at hu
  rcases hu with rfl | rfl <;> rfl
/-- a reply whose rows lie in blocks from B on -/
def RepF (B : Nat) (W : World) (r : RepD) (v : Value) : Prop :=
  ∃ an cn ar cr aw cw, ∃ ts : List RtC, v = .agg #[.int .i64 r.f, .string r.name, .slice an r.nums.length cn, .slice ar r.rts.length cr, .slice aw r.words.length cw] ∧ Cel W an (r.nums.map encW) ∧ Cel W ar (flatR ts) ∧ Cel W aw (r.words.map encS) ∧
    ts.map (·.r) = r.rts ∧ (∀ t ∈ ts, Cel W t.ao (t.r.es.map encI)) ∧ (∀ x, an = some x → B ≤ x.block) ∧ (∀ x, ar = some x → B ≤ x.block) ∧ (∀ x, aw = some x → B ≤ x.block) ∧ ∀ t ∈ ts, t.r.es ≠ [] → ∀ x, t.ao = some x → B ≤ x.block
theorem RepF.rep {B : Nat} {W : World} {r : RepD} {v : Value} (h : RepF B W r v) : RepV W r v := by
  obtain ⟨an, cn, ar, cr, aw, cw, ts, h1, h2, h3, h4, h5, h6, -⟩ := h
  exact ⟨an, cn, ar, cr, aw, cw, ts, h1, h2, h3, h4, h5, h6⟩
theorem RepF.go {B : Nat} {W W' : World} {r : RepD} {v : Value} (h : RepF B W r v) (hb : Below W.heap.size W W') : RepF B W' r v := by
  obtain ⟨an, cn, ar, cr, aw, cw, ts, h1, h2, h3, h4, h5, h6, h7⟩ := h
  exact ⟨an, cn, ar, cr, aw, cw, ts, h1, h2.go hb, h3.go hb, h4.go hb, h5, fun t ht => (h6 t ht).go hb, h7⟩
theorem RepF.put {B : Nat} {W : World} {r : RepD} {v : Value} (h : RepF B W r v) {a : Addr} (ha : a.block < B) (u : Value) : RepF B (W.setCell a u) r v := by
  obtain ⟨an, cn, ar, cr, aw, cw, ts, h1, h2, h3, h4, h5, h6, h7, h8, h9, h10⟩ := h
  exact ⟨an, cn, ar, cr, aw, cw, ts, h1, h2.put u (fun _ x hx => by have := h7 x hx; omega), h3.put u (fun _ x hx => by have := h8 x hx; omega), h4.put u (fun _ x hx => by have := h9 x hx; omega), h5, fun t ht => (h6 t ht).put u (fun hne x hx => by have := h10 t ht (by simpa using hne) x hx; omega), h7, h8, h9, h10⟩
theorem RepF.put5 {B : Nat} {W : World} {r : RepD} {v : Value} (h : RepF B W r v) {b : Nat} (hb : b < B) (x0 x1 x2 x3 x4 : Value) : RepF B (set5 W b x0 x1 x2 x3 x4) r v :=
  ((((h.put (a := ⟨b, 0, none⟩) hb x0).put (a := ⟨b, 1, none⟩) hb x1).put (a := ⟨b, 2, none⟩) hb x2).put (a := ⟨b, 3, none⟩) hb x3).put (a := ⟨b, 4, none⟩) hb x4
theorem Row3.repF {W : World} {base B : Nat} {r : RepD} {vn vr vw : Value} {ts : List RtC} (h : Row3 W base r vn vr vw ts) (hB : B ≤ base) : RepF B W r (.agg #[.int .i64 r.f, .string r.name, vn, vr, vw]) := by
  have l1 := h.on.lt
  have l2 := h.orr.lt
  have l3 := h.ow.lt
  obtain ⟨an, cn, e1, h1⟩ := Cel.of_owns h.on
  obtain ⟨ar, cr, e2, h2⟩ := Cel.of_owns h.orr
  obtain ⟨aw, cw, e3, h3⟩ := Cel.of_owns h.ow
  have htl := h.tl
  have htc := h.tc
  have htr := h.tr
  subst e1 e2 e3
  exact ⟨an, cn, ar, cr, aw, cw, ts, rfl, h1, h2, h3, htr, htc, fun x hx => by have := (l1 x.block (by rw [hx]; rfl)).1; omega, fun x hx => by have := (l2 x.block (by rw [hx]; rfl)).1; omega, fun x hx => by have := (l3 x.block (by rw [hx]; rfl)).1; omega, fun t ht hne x hx => by have := htl t ht hne x hx; omega⟩
theorem rep0_F (B : Nat) (W : World) (f : Int) : RepF B W { rep0 with f := f } (.agg #[.int .i64 f, .string ByteArray.empty, .slice none 0 0, .slice none 0 0, .slice none 0 0]) :=
  ⟨none, 0, none, 0, none, 0, [], rfl, Cel.nil _ _, Cel.nil _ _, Cel.nil _ _, rfl, (fun _ h => by cases h), (fun _ h => by cases h), (fun _ h => by cases h), (fun _ h => by cases h), (fun _ h => by cases h)⟩
theorem readR_low {l : List ByteArray} (h : l.length < 2) : readR l = rep0 := by
  match l, h with
  | [], _ => rfl
  | [a], _ => rfl
theorem readR_two {l : List ByteArray} (h0 : 0 < l.length) (h1 : 1 < l.length) : readR l = if l[0] = errW then { rep0 with f := (ofW l[1]).1 } else (l.drop 2).foldl readS { rep0 with name := l[1] } := by
  match l, h1 with
  | a :: b :: tl, _ => rfl
theorem readS_keeps (r : RepD) (s : ByteArray) : (readS r s).f = r.f ∧ (readS r s).name = r.name ∧ lenR (readS r s) ≤ lenR r + 1 := by
  unfold readS
  split
  · exact ⟨rfl, rfl, by simp [lenR]; omega⟩
  · split
    · exact ⟨rfl, rfl, by simp [lenR]; omega⟩
    · split
      · exact ⟨rfl, rfl, by simp [lenR]; omega⟩
      · exact ⟨rfl, rfl, by omega⟩
theorem fold_step {l : List ByteArray} {k : Nat} {r : RepD} (h : k < l.length) : (l.drop k).foldl readS r = (l.drop (k + 1)).foldl readS (readS r l[k]) := by
  rw [List.drop_eq_getElem_cons h]
  rfl

set_option maxRecDepth 100000 in
set_option maxHeartbeats 8000000 in
theorem refRead_any (l : List ByteArray) (ao : Option Addr) (cap : Nat) (w : World) (hl : l.length ≤ 100000) (hz : ∀ x ∈ l, x.size ≤ 10000) (hc : Cel w ao (l.map encS)) :
    Calls Tryz.prog 34 #[.slice ao l.length cap] w fun e w' => ∃ v, e = .returned v ∧ RepF w.heap.size w' (readR l) v ∧ Below w.heap.size w w' := by
  by_cases hlow : l.length < 2
  · have HV := Lib.hid (readR_low hlow)
    have h2 : (l.length : Int) < 2 := by omega
    generalize readR l = q at *
    clear hc hz hlow
    go_enter Tryz.func34, Tryz.ntmps34
    go_wp2
    obtain ⟨W1, hW1⟩ : ∃ W1, W1 = w.alloc (Obj.cells #[.int .i64 0, .string ⟨#[]⟩, .slice none 0 0, .slice none 0 0, .slice none 0 0] 31) := ⟨_, rfl⟩
    obtain ⟨r0, r1, r2, r3, r4, -⟩ : P5 W1 w.heap.size (.int .i64 0) (.string ⟨#[]⟩) (.slice none 0 0) (.slice none 0 0) (.slice none 0 0) := by rw [hW1]; exact P5.new _ _ _ _ _ _ _
    have hb1 : Below w.heap.size w W1 := by rw [hW1]; exact Below.of_al _ _
    rw [← hW1]
    clear hW1
    refine bodyPost_ret (v := .agg #[.int .i64 0, .string ⟨#[]⟩, .slice none 0 0, .slice none 0 0, .slice none 0 0]) (by simp [results, Tryz.results34, go_sem, r0, r1, r2, r3, r4]; try rfl) rfl ?_
    exact ⟨_, rfl, by rw [HV.out]; exact rep0_F _ _ _, hb1⟩
  · have h0 : 0 < l.length := by omega
    have h1 : 1 < l.length := by omega
    have hV := readR_two h0 h1
    obtain ⟨b, o, hao, c0⟩ := hc.at h0
    obtain ⟨b', o', hao', c1⟩ := hc.at h1
    subst hao
    cases hao'
    have h2 : ¬ (l.length : Int) < 2 := by omega
    have h3 : (0 : Int) < (l.length : Int) := by omega
    have h4 : (1 : Int) < (l.length : Int) := by omega
    rw [Nat.add_zero] at c0
    have c0a := fun O => cell_later (Below.of_al w O) c0
    have c1a := fun O => cell_later (Below.of_al w O) c1
    have he := byt_eq (a := l[0]) (c := errW) (l := [101, 114, 114, 111, 114]) rfl
    have HOF := Lib.hid (fun W => ref04Of_any l[1] W)
    by_cases hae : l[0] = errW
    · rw [if_pos hae] at hV
      rw [decide_eq_true hae] at he
      have HV := Lib.hid hV
      generalize l[0] = x at *
      generalize l[1] = y at *
      generalize ofW y = q at *
      clear hV hae hc hz hlow
      go_enter Tryz.func34, Tryz.ntmps34
      go_wp2_with (go_at_call 83; refine (HOF.out _).mono ?_; rintro e w2 ⟨rfl, hb2⟩; (have HT2 := Lib.hid ((P5.new w 31 (.int .i64 0) (.string ⟨#[]⟩) (.slice none 0 0) (.slice none 0 0) (.slice none 0 0)).go hb2); have HB2 := Lib.hid ((Below.of_al _ _).st hb2)); obtain ⟨t0, t1, t2, t3, t4, g0, g1, g2, g3, g4⟩ := HT2.out)
      obtain ⟨r0, r1, r2, r3, r4, -⟩ := (HT2.out).set5 (.int .i64 q.1) (.string ⟨#[]⟩) (.slice none 0 0) (.slice none 0 0) (.slice none 0 0)
      refine bodyPost_ret (v := .agg #[.int .i64 q.1, .string ⟨#[]⟩, .slice none 0 0, .slice none 0 0, .slice none 0 0]) (by simp [results, Tryz.results34, go_sem, r0, r1, r2, r3, r4]; try rfl) rfl ?_
      exact ⟨_, rfl, by rw [HV.out]; exact rep0_F _ _ _, bel_set5 HB2.out (Nat.le_refl _) _ _ _ _ _⟩
    · rw [if_neg hae] at hV
      rw [decide_eq_false hae] at he
      have HV := Lib.hid hV
      have HC := Lib.hid hc
      generalize l[0] = x at *
      generalize l[1] = y at *
      clear hV hae hc hlow HOF
      go_enter Tryz.func34, Tryz.ntmps34
      go_wp2
      obtain ⟨R, hR⟩ : ∃ R, R = w.heap.size + 1 := ⟨_, rfl⟩
      obtain ⟨W4, hW4⟩ : ∃ W4, W4 = (w.alloc (Obj.cells #[.int .i64 0, .string ⟨#[]⟩, .slice none 0 0, .slice none 0 0, .slice none 0 0] 31)).alloc (Obj.cells #[.int .i64 0, .string y, .slice none 0 0, .slice none 0 0, .slice none 0 0] 31) := ⟨_, rfl⟩
      have HT4 := Lib.hid (show P5 W4 w.heap.size (.int .i64 0) (.string ⟨#[]⟩) (.slice none 0 0) (.slice none 0 0) (.slice none 0 0) by rw [hW4]; exact (P5.new _ _ _ _ _ _ _).go (Below.of_al _ _))
      have HP4 := Lib.hid (show P5 W4 R (.int .i64 0) (.string y) (.slice none 0 0) (.slice none 0 0) (.slice none 0 0) by
        rw [hW4, hR]
        have h := P5.new (w.alloc (Obj.cells #[.int .i64 0, .string ⟨#[]⟩, .slice none 0 0, .slice none 0 0, .slice none 0 0] 31)) 31 (.int .i64 0) (.string y) (.slice none 0 0) (.slice none 0 0) (.slice none 0 0)
        simpa using h)
      have HB4 := Lib.hid (show Below w.heap.size w W4 by rw [hW4]; exact (Below.of_al _ _).al _)
      have HZ4 := Lib.hid (show W4.heap.size = R + 1 by rw [hW4, hR]; simp)
      have HR4 := Lib.hid hR
      rw [← hW4, ← hR]
      clear hW4 hR c0a c1a c0 c1 he
      go_loopg [6] l.length (fun g v6 wr => ∃ (k : Nat) (r' : RepD) (vn vr vw : Value) (ts : List RtC), 2 ≤ k ∧ k ≤ l.length ∧ l.length - k ≤ g ∧ v6 = .int .i64 k ∧ lenR r' ≤ k ∧ Aside (readR l = (l.drop k).foldl readS r') ∧ Aside (Row3 wr (R + 1) r' vn vr vw ts) ∧
        Aside (P5 wr R (.int .i64 r'.f) (.string r'.name) vn vr vw) ∧ Aside (Below R W4 wr))
      case atStart => exact ⟨2, { rep0 with name := y }, .slice none 0 0, .slice none 0 0, .slice none 0 0, [], Nat.le_refl _, by omega, by omega, by go_num, Nat.zero_le _, HV.out, Row3.start _ _ _ _, HP4.out, Below.refl _ _⟩
      case round =>
        obtain ⟨k, r', vn, vr, vw, ts, hk2, hk1, hg, rfl, hlr, HFD, H3, H5, HB⟩ := hrel
        have hk0 : (0 : Int) ≤ (k : Int) := by omega
        by_cases hlt : k < l.length
        · have hlt3 : (k : Int) < (l.length : Int) := by omega
          obtain ⟨b9, o9, hao9, y0⟩ := (HC.out.go (HB4.out.trans (HB.out.mono (by have := HR4.out; omega)))).at hlt
          cases hao9
          have HST := Lib.hid (HFD.out.trans (fold_step hlt))
          have hxz := hz l[k] (List.getElem_mem hlt)
          have HPI := Lib.hid (refParse_any l[k] wr (by omega))
          have HPR := Lib.hid (fun W => refParseRoute_any l[k] W hxz)
          have HZ := Lib.hid (show R + 1 ≤ wr.heap.size by have := HB.out.size; have := HZ4.out; omega)
          obtain ⟨e1, e2, e3⟩ := readS_keeps r' l[k]
          obtain ⟨⟨an, cn, rfl⟩, ⟨ar, cr, rfl⟩, ⟨aw, cw, rfl⟩⟩ := H3.out.shapes
          have hn1 : r'.nums.length ≤ 100000 ∧ r'.rts.length ≤ 100000 ∧ r'.words.length ≤ 100000 := by unfold lenR at hlr; omega
          generalize l[k] = s at *
          by_cases hh : s.data.toList.head? = some 61
          · have HS := Lib.hid (show readS r' s = { r' with words := r'.words ++ [s.extract 1 s.size] } by unfold readS; rw [if_pos hh])
            have hpos : 0 < s.size := by
              cases e : s.data.toList with
              | nil => rw [e] at hh; cases hh
              | cons a q =>
                have h0 : s.data.toList.length = q.length + 1 := by rw [e]; rfl
                have h1 : s.size = s.data.toList.length := by simp
                omega
            have hpos2 : (0 : Int) < (s.size : Int) := by omega
            have hpos3 : (1 : Int) ≤ (s.size : Int) := by omega
            have hb61 : ((s[0].toNat : Int) == 61) = true := by
              have h0 : s.data.toList[0]? = some 61 := by rw [← List.head?_eq_getElem?]; exact hh
              have h1 : s[0] = 61 := (List.getElem?_eq_some_iff.1 h0).2
              rw [h1]; rfl
            clear hh
            generalize parseRt s = q at *
            generalize parseI s = qi at *
            obtain ⟨rd, is⟩ := q
            go_wp2_with (go_at_call 84; refine HPI.out.mono ?_; rintro e w1 ⟨rfl, rfl⟩)
            refine (HPR.out _).mono ?_
            rintro e w2 ⟨ao2, cap2, rfl, hc2, hb2, hf2⟩
            have HC2 := Lib.hid hc2
            have HF2 := Lib.hid (show ∀ x, ao2 = some x → R + 1 ≤ x.block ∧ (Value.slice an r'.nums.length cn).ownBlock ≠ some x.block ∧ (Value.slice ar r'.rts.length cr).ownBlock ≠ some x.block ∧ (Value.slice aw r'.words.length cw).ownBlock ≠ some x.block from fun x hx => ⟨by have := hf2 x hx; have := HZ.out; omega, fun e => by have := hf2 x hx; have := (H3.out.on.lt _ e).2; omega, fun e => by have := hf2 x hx; have := (H3.out.orr.lt _ e).2; omega, fun e => by have := hf2 x hx; have := (H3.out.ow.lt _ e).2; omega⟩)
            have H3b := Lib.hid (H3.out.go hb2)
            have H5b := Lib.hid (H5.out.go hb2)
            have HBb := Lib.hid (bel_go HB.out hb2 (by have := HZ4.out; omega))
            have HZb := Lib.hid (Nat.le_trans HZ.out hb2.size)
            have y0b := fun O => cell_later (hb2.al O) y0
            obtain ⟨p0, p1, p2, p3, p4, f0, f1, f2, f3, f4⟩ := H5b.out
            have p2c := fun O => cell_later (Below.of_al w2 O) p2
            have p3c := fun O => cell_later (Below.of_al w2 O) p3
            have p4c := fun O => cell_later (Below.of_al w2 O) p4
            clear hc2 hf2 hb2 HPI HPR H3 H5 HB HZ
            go_wp2_with fail
            obtain ⟨W5, hW5⟩ : ∃ W5, W5 = w2.alloc (Obj.cells #[.slice ao2 rd.es.length cap2, .int .u64 rd.w] 48) := ⟨_, rfl⟩
            have HR5 := Lib.hid (show Row3 W5 (R + 1) r' (Value.slice an r'.nums.length cn) (Value.slice ar r'.rts.length cr) (Value.slice aw r'.words.length cw) ts by rw [hW5]; exact H3b.out.go (Below.of_al _ _))
            have HP5 := Lib.hid (show P5 W5 R (.int .i64 r'.f) (.string r'.name) (Value.slice an r'.nums.length cn) (Value.slice ar r'.rts.length cr) (Value.slice aw r'.words.length cw) by rw [hW5]; exact H5b.out.go (Below.of_al _ _))
            have HB5 := Lib.hid (show Below R W4 W5 by rw [hW5]; exact HBb.out.alloc (by have := HZb.out; omega) _)
            have HZ5 := Lib.hid (show R + 1 ≤ W5.heap.size by rw [hW5]; have := HZb.out; simp; omega)
            have y05 : W5.cell? ⟨b, o + k, none⟩ = some (encS s) := by rw [hW5]; exact y0b _
            have HO5 := Lib.hid HR5.out.ow
            rw [← hW5]
            clear hW5 HC2 HF2 H3b H5b HBb HZb y0b p0 p1 p2 p3 p4 f0 f1 f2 f3 f4 p2c p3c p4c
            obtain ⟨p0, p1, p2, p3, p4, f0, f1, f2, f3, f4⟩ := HP5.out
            have p4a := fun O => cell_later (Below.of_al W5 O) p4
            have y0a := fun O => cell_later (Below.of_al W5 O) y05
            go_region_law (refine step_appH rfl (.tmp 69) (.tmp 75) 26 rfl (R + 1) 9 _ 1 16 rt_elem Tryz.underlying26 (.slice aw r'.words.length cw) r'.words.length (r'.words.map encS) ⟨W5.heap.size, 0, none⟩ 1 1 [.string (s.extract 1 s.size)] rfl rfl (World.ownsRow.alloc (owns_dr HO5.out 1) _) (one_at _ _ _ rfl) (rt_ones _) ⟨rfl, by decide, by omega, by omega, by have := HZ5.out; simp; omega⟩ ?_; intro g6 cap6 w6 hown hgrow hbl hat; (have hU := (Below.of_al W5 (Obj.cells #[.string (s.extract 1 s.size)] 9)).drew; have HR6 := Lib.hid ((HR5.out.go hU).word hown hgrow hat); have hR6 : ∀ k, (Value.slice aw r'.words.length cw).ownBlock = some k → R + 1 ≤ k := fun k e => (HO5.out.lt k e).1; have HP6 := Lib.hid ((HP5.out.go hU).eq (hgrow.block R (by have := HZ5.out; have := hU.size; omega) (fun e => by have := hR6 _ e.symm; omega))); have HB6 := Lib.hid ((HB5.out.trans (hU.mono (by have := HZ5.out; omega))).trans (hbl.mono (by omega))); clear hown hgrow hbl hat hR6 hU; obtain ⟨c0, c1, c2, c3, c4, d0, d1, d2, d3, d4⟩ := HP6.out))
            all_goals
              go_wp2
              go_roundg (l.length - (k + 1))
              case measure => omega
              case rel => exact ⟨k + 1, readS r' s, .slice an r'.nums.length cn, .slice ar r'.rts.length cr, .slice (some ⟨g6, 0, none⟩) (r'.words.length + 1) cap6, ts, by omega, by omega, by omega, by go_num, by omega, HST.out, by rw [HS.out]; exact HR6.out.put (a := ⟨R, 4, none⟩) (by show R < R + 1; omega) _, by rw [e1, e2]; exact HP6.out.set4 _, HB6.out.setCell (Nat.le_refl _) _⟩
          · have hhd : 0 < s.size → s.data.toList[0]? ≠ some 61 := fun _ e => hh (by rw [List.head?_eq_getElem?]; exact e)
            have HS0 := Lib.hid (show readS r' s = if (parseI s).2 = 0 then { r' with nums := r'.nums ++ [(parseI s).1] } else if (parseRt s).2 = true then { r' with rts := r'.rts ++ [(parseRt s).1] } else r' by unfold readS; rw [if_neg hh])
            generalize hqi : parseI s = qi at *
            generalize hqr : parseRt s = q at *
            obtain ⟨rd, is⟩ := q
            obtain ⟨pv, pf⟩ := qi
            simp only at HPR HPI HS0
            clear hh hqi hqr
            by_cases hz0 : s.size = 0
            · have hpos2 : ¬ (0 : Int) < (s.size : Int) := by omega
              clear hhd
              by_cases hpf : pf = 0
              · have HS := Lib.hid (show readS r' s = { r' with nums := r'.nums ++ [pv] } by rw [HS0.out, if_pos hpf])
                subst hpf
                clear HS0
                go_wp2_with (go_at_call 84; refine HPI.out.mono ?_; rintro e w1 ⟨rfl, rfl⟩)
                refine (HPR.out _).mono ?_
                rintro e w2 ⟨ao2, cap2, rfl, hc2, hb2, hf2⟩
                have HC2 := Lib.hid hc2
                have HF2 := Lib.hid (show ∀ x, ao2 = some x → R + 1 ≤ x.block ∧ (Value.slice an r'.nums.length cn).ownBlock ≠ some x.block ∧ (Value.slice ar r'.rts.length cr).ownBlock ≠ some x.block ∧ (Value.slice aw r'.words.length cw).ownBlock ≠ some x.block from fun x hx => ⟨by have := hf2 x hx; have := HZ.out; omega, fun e => by have := hf2 x hx; have := (H3.out.on.lt _ e).2; omega, fun e => by have := hf2 x hx; have := (H3.out.orr.lt _ e).2; omega, fun e => by have := hf2 x hx; have := (H3.out.ow.lt _ e).2; omega⟩)
                have H3b := Lib.hid (H3.out.go hb2)
                have H5b := Lib.hid (H5.out.go hb2)
                have HBb := Lib.hid (bel_go HB.out hb2 (by have := HZ4.out; omega))
                have HZb := Lib.hid (Nat.le_trans HZ.out hb2.size)
                have y0b := fun O => cell_later (hb2.al O) y0
                obtain ⟨p0, p1, p2, p3, p4, f0, f1, f2, f3, f4⟩ := H5b.out
                have p2c := fun O => cell_later (Below.of_al w2 O) p2
                have p3c := fun O => cell_later (Below.of_al w2 O) p3
                have p4c := fun O => cell_later (Below.of_al w2 O) p4
                clear hc2 hf2 hb2 HPI HPR H3 H5 HB HZ
                have HO := Lib.hid H3b.out.on
                go_wp2_with (at_builtin; go_must ((with_reducible refine wpList_app (R + 1) 46 _ 1 8 rp_elemu Tryz.underlying24 (.slice an r'.nums.length cn) r'.nums.length _ ⟨w2.heap.size + 1, 0, none⟩ 1 1 [.int .u64 pv] ?_ ?_ ((HO.out.alloc _).alloc _) (one_at _ _ _ (by simp)) (rp_oneu _) ⟨rfl, by decide, by omega, by omega, by have := HZb.out; simp; omega⟩ ?_); (· rfl); (· rfl); intro g6 cap6 w6 hown hgrow hbl hat hlt6; (have hU := (Below.of_al w2 (Obj.cells #[.slice ao2 rd.es.length cap2, .int .u64 rd.w] 48)).al (Obj.cells #[.int .u64 pv] 46); have HR6 := Lib.hid ((H3b.out.go hU).num hown hgrow hat); have hR6 : ∀ k, (Value.slice an r'.nums.length cn).ownBlock = some k → R + 1 ≤ k := fun k e => (HO.out.lt k e).1; have HP6 := Lib.hid ((H5b.out.go hU).eq (hgrow.block R (by have := HZb.out; have := hU.size; omega) (fun e => by have := hR6 _ e.symm; omega))); have HB6 := Lib.hid ((HBb.out.trans (hU.mono (by have := HZb.out; omega))).trans (hbl.mono (by omega))); clear hown hgrow hbl hat hR6 hU; obtain ⟨c0, c1, c2, c3, c4, d0, d1, d2, d3, d4⟩ := HP6.out)))
                go_roundg (l.length - (k + 1))
                case measure => omega
                case rel => exact ⟨k + 1, readS r' s, .slice (some ⟨g6, 0, none⟩) (r'.nums.length + 1) cap6, .slice ar r'.rts.length cr, .slice aw r'.words.length cw, ts, by omega, by omega, by omega, by go_num, by omega, HST.out, by rw [HS.out]; exact HR6.out.put (a := ⟨R, 2, none⟩) (by show R < R + 1; omega) _, by rw [e1, e2]; exact HP6.out.set2 _, HB6.out.setCell (Nat.le_refl _) _⟩
              · have hpf2 : (pf == 0) = false := by simpa using hpf
                cases is with
                | true =>
                  have HS := Lib.hid (show readS r' s = { r' with rts := r'.rts ++ [rd] } by rw [HS0.out, if_neg hpf]; rfl)
                  clear HS0 hpf
                  go_wp2_with (go_at_call 84; refine HPI.out.mono ?_; rintro e w1 ⟨rfl, rfl⟩)
                  refine (HPR.out _).mono ?_
                  rintro e w2 ⟨ao2, cap2, rfl, hc2, hb2, hf2⟩
                  have HC2 := Lib.hid hc2
                  have HF2 := Lib.hid (show ∀ x, ao2 = some x → R + 1 ≤ x.block ∧ (Value.slice an r'.nums.length cn).ownBlock ≠ some x.block ∧ (Value.slice ar r'.rts.length cr).ownBlock ≠ some x.block ∧ (Value.slice aw r'.words.length cw).ownBlock ≠ some x.block from fun x hx => ⟨by have := hf2 x hx; have := HZ.out; omega, fun e => by have := hf2 x hx; have := (H3.out.on.lt _ e).2; omega, fun e => by have := hf2 x hx; have := (H3.out.orr.lt _ e).2; omega, fun e => by have := hf2 x hx; have := (H3.out.ow.lt _ e).2; omega⟩)
                  have H3b := Lib.hid (H3.out.go hb2)
                  have H5b := Lib.hid (H5.out.go hb2)
                  have HBb := Lib.hid (bel_go HB.out hb2 (by have := HZ4.out; omega))
                  have HZb := Lib.hid (Nat.le_trans HZ.out hb2.size)
                  have y0b := fun O => cell_later (hb2.al O) y0
                  obtain ⟨p0, p1, p2, p3, p4, f0, f1, f2, f3, f4⟩ := H5b.out
                  have p2c := fun O => cell_later (Below.of_al w2 O) p2
                  have p3c := fun O => cell_later (Below.of_al w2 O) p3
                  have p4c := fun O => cell_later (Below.of_al w2 O) p4
                  clear hc2 hf2 hb2 HPI HPR H3 H5 HB HZ
                  have HO := Lib.hid H3b.out.orr
                  obtain ⟨k0, k1, -, -⟩ := P2.new w2 48 (.slice ao2 rd.es.length cap2) (.int .u64 rd.w)
                  go_wp2_with (at_builtin; go_must ((with_reducible refine wpList_app (R + 1) 48 _ 2 32 rp_elemr Tryz.underlying25 (.slice ar r'.rts.length cr) r'.rts.length _ ⟨w2.heap.size + 1, 0, none⟩ 1 1 [.slice ao2 rd.es.length cap2, .int .u64 rd.w] ?_ ?_ ((HO.out.alloc _).alloc _) (two_cells _ _ _ _ (by simp)) (rp_oner _ _ _ _) ⟨rfl, by decide, by omega, by omega, by have := HZb.out; simp; omega⟩ ?_); (· rfl); (· rfl); intro g6 cap6 w6 hown hgrow hbl hat hlt6; (have hU := (Below.of_al w2 (Obj.cells #[.slice ao2 rd.es.length cap2, .int .u64 rd.w] 48)).al (Obj.cells #[.slice ao2 rd.es.length cap2, .int .u64 rd.w] 48); have HR6 := Lib.hid ((H3b.out.go hU).route (t := ⟨ao2, cap2, rd⟩) hown hgrow hat (HC2.out.go hU) (fun x hx => (HF2.out x hx).1) (fun x hx => (HF2.out x hx).2.1) (fun x hx => (HF2.out x hx).2.2.1) (fun x hx => (HF2.out x hx).2.2.2)); have hR6 : ∀ k, (Value.slice ar r'.rts.length cr).ownBlock = some k → R + 1 ≤ k := fun k e => (HO.out.lt k e).1; have HP6 := Lib.hid ((H5b.out.go hU).eq (hgrow.block R (by have := HZb.out; have := hU.size; omega) (fun e => by have := hR6 _ e.symm; omega))); have HB6 := Lib.hid ((HBb.out.trans (hU.mono (by have := HZb.out; omega))).trans (hbl.mono (by omega))); clear hown hgrow hbl hat hR6 hU; obtain ⟨c0, c1, c2, c3, c4, d0, d1, d2, d3, d4⟩ := HP6.out)))
                  go_roundg (l.length - (k + 1))
                  case measure => omega
                  case rel => exact ⟨k + 1, readS r' s, .slice an r'.nums.length cn, .slice (some ⟨g6, 0, none⟩) (r'.rts.length + 1) cap6, .slice aw r'.words.length cw, ts ++ [⟨ao2, cap2, rd⟩], by omega, by omega, by omega, by go_num, by omega, HST.out, by rw [HS.out]; exact HR6.out.put (a := ⟨R, 3, none⟩) (by show R < R + 1; omega) _, by rw [e1, e2]; exact HP6.out.set3 _, HB6.out.setCell (Nat.le_refl _) _⟩
                | false =>
                  have HS := Lib.hid (show readS r' s = r' by rw [HS0.out, if_neg hpf]; rfl)
                  clear HS0 hpf
                  go_wp2_with (go_at_call 84; refine HPI.out.mono ?_; rintro e w1 ⟨rfl, rfl⟩)
                  refine (HPR.out _).mono ?_
                  rintro e w2 ⟨ao2, cap2, rfl, hc2, hb2, hf2⟩
                  have HC2 := Lib.hid hc2
                  have HF2 := Lib.hid (show ∀ x, ao2 = some x → R + 1 ≤ x.block ∧ (Value.slice an r'.nums.length cn).ownBlock ≠ some x.block ∧ (Value.slice ar r'.rts.length cr).ownBlock ≠ some x.block ∧ (Value.slice aw r'.words.length cw).ownBlock ≠ some x.block from fun x hx => ⟨by have := hf2 x hx; have := HZ.out; omega, fun e => by have := hf2 x hx; have := (H3.out.on.lt _ e).2; omega, fun e => by have := hf2 x hx; have := (H3.out.orr.lt _ e).2; omega, fun e => by have := hf2 x hx; have := (H3.out.ow.lt _ e).2; omega⟩)
                  have H3b := Lib.hid (H3.out.go hb2)
                  have H5b := Lib.hid (H5.out.go hb2)
                  have HBb := Lib.hid (bel_go HB.out hb2 (by have := HZ4.out; omega))
                  have HZb := Lib.hid (Nat.le_trans HZ.out hb2.size)
                  have y0b := fun O => cell_later (hb2.al O) y0
                  obtain ⟨p0, p1, p2, p3, p4, f0, f1, f2, f3, f4⟩ := H5b.out
                  have p2c := fun O => cell_later (Below.of_al w2 O) p2
                  have p3c := fun O => cell_later (Below.of_al w2 O) p3
                  have p4c := fun O => cell_later (Below.of_al w2 O) p4
                  clear hc2 hf2 hb2 HPI HPR H3 H5 HB HZ
                  go_wp2
                  go_roundg (l.length - (k + 1))
                  case measure => omega
                  case rel => exact ⟨k + 1, readS r' s, .slice an r'.nums.length cn, .slice ar r'.rts.length cr, .slice aw r'.words.length cw, ts, by omega, by omega, by omega, by go_num, by omega, HST.out, by rw [HS.out]; exact H3b.out.go (Below.of_al _ _), by rw [e1, e2]; exact H5b.out.go (Below.of_al _ _), HBb.out.alloc (by have := HZb.out; omega) _⟩
            · have hpos2 : (0 : Int) < (s.size : Int) := by omega
              have hpos : 0 < s.size := by omega
              have hb61 : ((s[0].toNat : Int) == 61) = false := by
                rw [beq_eq_false_iff_ne]
                intro e
                apply hhd hpos
                have h1 : s[0] = 61 := UInt8.toNat_inj.1 (show s[0].toNat = 61 by omega)
                rw [← h1]
                exact List.getElem?_eq_getElem (by simpa using hpos)
              clear hhd
              by_cases hpf : pf = 0
              · have HS := Lib.hid (show readS r' s = { r' with nums := r'.nums ++ [pv] } by rw [HS0.out, if_pos hpf])
                subst hpf
                clear HS0
                go_wp2_with (go_at_call 84; refine HPI.out.mono ?_; rintro e w1 ⟨rfl, rfl⟩)
                refine (HPR.out _).mono ?_
                rintro e w2 ⟨ao2, cap2, rfl, hc2, hb2, hf2⟩
                have HC2 := Lib.hid hc2
                have HF2 := Lib.hid (show ∀ x, ao2 = some x → R + 1 ≤ x.block ∧ (Value.slice an r'.nums.length cn).ownBlock ≠ some x.block ∧ (Value.slice ar r'.rts.length cr).ownBlock ≠ some x.block ∧ (Value.slice aw r'.words.length cw).ownBlock ≠ some x.block from fun x hx => ⟨by have := hf2 x hx; have := HZ.out; omega, fun e => by have := hf2 x hx; have := (H3.out.on.lt _ e).2; omega, fun e => by have := hf2 x hx; have := (H3.out.orr.lt _ e).2; omega, fun e => by have := hf2 x hx; have := (H3.out.ow.lt _ e).2; omega⟩)
                have H3b := Lib.hid (H3.out.go hb2)
                have H5b := Lib.hid (H5.out.go hb2)
                have HBb := Lib.hid (bel_go HB.out hb2 (by have := HZ4.out; omega))
                have HZb := Lib.hid (Nat.le_trans HZ.out hb2.size)
                have y0b := fun O => cell_later (hb2.al O) y0
                obtain ⟨p0, p1, p2, p3, p4, f0, f1, f2, f3, f4⟩ := H5b.out
                have p2c := fun O => cell_later (Below.of_al w2 O) p2
                have p3c := fun O => cell_later (Below.of_al w2 O) p3
                have p4c := fun O => cell_later (Below.of_al w2 O) p4
                clear hc2 hf2 hb2 HPI HPR H3 H5 HB HZ
                have HO := Lib.hid H3b.out.on
                go_wp2_with (at_builtin; go_must ((with_reducible refine wpList_app (R + 1) 46 _ 1 8 rp_elemu Tryz.underlying24 (.slice an r'.nums.length cn) r'.nums.length _ ⟨w2.heap.size + 1, 0, none⟩ 1 1 [.int .u64 pv] ?_ ?_ ((HO.out.alloc _).alloc _) (one_at _ _ _ (by simp)) (rp_oneu _) ⟨rfl, by decide, by omega, by omega, by have := HZb.out; simp; omega⟩ ?_); (· rfl); (· rfl); intro g6 cap6 w6 hown hgrow hbl hat hlt6; (have hU := (Below.of_al w2 (Obj.cells #[.slice ao2 rd.es.length cap2, .int .u64 rd.w] 48)).al (Obj.cells #[.int .u64 pv] 46); have HR6 := Lib.hid ((H3b.out.go hU).num hown hgrow hat); have hR6 : ∀ k, (Value.slice an r'.nums.length cn).ownBlock = some k → R + 1 ≤ k := fun k e => (HO.out.lt k e).1; have HP6 := Lib.hid ((H5b.out.go hU).eq (hgrow.block R (by have := HZb.out; have := hU.size; omega) (fun e => by have := hR6 _ e.symm; omega))); have HB6 := Lib.hid ((HBb.out.trans (hU.mono (by have := HZb.out; omega))).trans (hbl.mono (by omega))); clear hown hgrow hbl hat hR6 hU; obtain ⟨c0, c1, c2, c3, c4, d0, d1, d2, d3, d4⟩ := HP6.out)))
                go_roundg (l.length - (k + 1))
                case measure => omega
                case rel => exact ⟨k + 1, readS r' s, .slice (some ⟨g6, 0, none⟩) (r'.nums.length + 1) cap6, .slice ar r'.rts.length cr, .slice aw r'.words.length cw, ts, by omega, by omega, by omega, by go_num, by omega, HST.out, by rw [HS.out]; exact HR6.out.put (a := ⟨R, 2, none⟩) (by show R < R + 1; omega) _, by rw [e1, e2]; exact HP6.out.set2 _, HB6.out.setCell (Nat.le_refl _) _⟩
              · have hpf2 : (pf == 0) = false := by simpa using hpf
                cases is with
                | true =>
                  have HS := Lib.hid (show readS r' s = { r' with rts := r'.rts ++ [rd] } by rw [HS0.out, if_neg hpf]; rfl)
                  clear HS0 hpf
                  go_wp2_with (go_at_call 84; refine HPI.out.mono ?_; rintro e w1 ⟨rfl, rfl⟩)
                  refine (HPR.out _).mono ?_
                  rintro e w2 ⟨ao2, cap2, rfl, hc2, hb2, hf2⟩
                  have HC2 := Lib.hid hc2
                  have HF2 := Lib.hid (show ∀ x, ao2 = some x → R + 1 ≤ x.block ∧ (Value.slice an r'.nums.length cn).ownBlock ≠ some x.block ∧ (Value.slice ar r'.rts.length cr).ownBlock ≠ some x.block ∧ (Value.slice aw r'.words.length cw).ownBlock ≠ some x.block from fun x hx => ⟨by have := hf2 x hx; have := HZ.out; omega, fun e => by have := hf2 x hx; have := (H3.out.on.lt _ e).2; omega, fun e => by have := hf2 x hx; have := (H3.out.orr.lt _ e).2; omega, fun e => by have := hf2 x hx; have := (H3.out.ow.lt _ e).2; omega⟩)
                  have H3b := Lib.hid (H3.out.go hb2)
                  have H5b := Lib.hid (H5.out.go hb2)
                  have HBb := Lib.hid (bel_go HB.out hb2 (by have := HZ4.out; omega))
                  have HZb := Lib.hid (Nat.le_trans HZ.out hb2.size)
                  have y0b := fun O => cell_later (hb2.al O) y0
                  obtain ⟨p0, p1, p2, p3, p4, f0, f1, f2, f3, f4⟩ := H5b.out
                  have p2c := fun O => cell_later (Below.of_al w2 O) p2
                  have p3c := fun O => cell_later (Below.of_al w2 O) p3
                  have p4c := fun O => cell_later (Below.of_al w2 O) p4
                  clear hc2 hf2 hb2 HPI HPR H3 H5 HB HZ
                  have HO := Lib.hid H3b.out.orr
                  obtain ⟨k0, k1, -, -⟩ := P2.new w2 48 (.slice ao2 rd.es.length cap2) (.int .u64 rd.w)
                  go_wp2_with (at_builtin; go_must ((with_reducible refine wpList_app (R + 1) 48 _ 2 32 rp_elemr Tryz.underlying25 (.slice ar r'.rts.length cr) r'.rts.length _ ⟨w2.heap.size + 1, 0, none⟩ 1 1 [.slice ao2 rd.es.length cap2, .int .u64 rd.w] ?_ ?_ ((HO.out.alloc _).alloc _) (two_cells _ _ _ _ (by simp)) (rp_oner _ _ _ _) ⟨rfl, by decide, by omega, by omega, by have := HZb.out; simp; omega⟩ ?_); (· rfl); (· rfl); intro g6 cap6 w6 hown hgrow hbl hat hlt6; (have hU := (Below.of_al w2 (Obj.cells #[.slice ao2 rd.es.length cap2, .int .u64 rd.w] 48)).al (Obj.cells #[.slice ao2 rd.es.length cap2, .int .u64 rd.w] 48); have HR6 := Lib.hid ((H3b.out.go hU).route (t := ⟨ao2, cap2, rd⟩) hown hgrow hat (HC2.out.go hU) (fun x hx => (HF2.out x hx).1) (fun x hx => (HF2.out x hx).2.1) (fun x hx => (HF2.out x hx).2.2.1) (fun x hx => (HF2.out x hx).2.2.2)); have hR6 : ∀ k, (Value.slice ar r'.rts.length cr).ownBlock = some k → R + 1 ≤ k := fun k e => (HO.out.lt k e).1; have HP6 := Lib.hid ((H5b.out.go hU).eq (hgrow.block R (by have := HZb.out; have := hU.size; omega) (fun e => by have := hR6 _ e.symm; omega))); have HB6 := Lib.hid ((HBb.out.trans (hU.mono (by have := HZb.out; omega))).trans (hbl.mono (by omega))); clear hown hgrow hbl hat hR6 hU; obtain ⟨c0, c1, c2, c3, c4, d0, d1, d2, d3, d4⟩ := HP6.out)))
                  go_roundg (l.length - (k + 1))
                  case measure => omega
                  case rel => exact ⟨k + 1, readS r' s, .slice an r'.nums.length cn, .slice (some ⟨g6, 0, none⟩) (r'.rts.length + 1) cap6, .slice aw r'.words.length cw, ts ++ [⟨ao2, cap2, rd⟩], by omega, by omega, by omega, by go_num, by omega, HST.out, by rw [HS.out]; exact HR6.out.put (a := ⟨R, 3, none⟩) (by show R < R + 1; omega) _, by rw [e1, e2]; exact HP6.out.set3 _, HB6.out.setCell (Nat.le_refl _) _⟩
                | false =>
                  have HS := Lib.hid (show readS r' s = r' by rw [HS0.out, if_neg hpf]; rfl)
                  clear HS0 hpf
                  go_wp2_with (go_at_call 84; refine HPI.out.mono ?_; rintro e w1 ⟨rfl, rfl⟩)
                  refine (HPR.out _).mono ?_
                  rintro e w2 ⟨ao2, cap2, rfl, hc2, hb2, hf2⟩
                  have HC2 := Lib.hid hc2
                  have HF2 := Lib.hid (show ∀ x, ao2 = some x → R + 1 ≤ x.block ∧ (Value.slice an r'.nums.length cn).ownBlock ≠ some x.block ∧ (Value.slice ar r'.rts.length cr).ownBlock ≠ some x.block ∧ (Value.slice aw r'.words.length cw).ownBlock ≠ some x.block from fun x hx => ⟨by have := hf2 x hx; have := HZ.out; omega, fun e => by have := hf2 x hx; have := (H3.out.on.lt _ e).2; omega, fun e => by have := hf2 x hx; have := (H3.out.orr.lt _ e).2; omega, fun e => by have := hf2 x hx; have := (H3.out.ow.lt _ e).2; omega⟩)
                  have H3b := Lib.hid (H3.out.go hb2)
                  have H5b := Lib.hid (H5.out.go hb2)
                  have HBb := Lib.hid (bel_go HB.out hb2 (by have := HZ4.out; omega))
                  have HZb := Lib.hid (Nat.le_trans HZ.out hb2.size)
                  have y0b := fun O => cell_later (hb2.al O) y0
                  obtain ⟨p0, p1, p2, p3, p4, f0, f1, f2, f3, f4⟩ := H5b.out
                  have p2c := fun O => cell_later (Below.of_al w2 O) p2
                  have p3c := fun O => cell_later (Below.of_al w2 O) p3
                  have p4c := fun O => cell_later (Below.of_al w2 O) p4
                  clear hc2 hf2 hb2 HPI HPR H3 H5 HB HZ
                  go_wp2
                  go_roundg (l.length - (k + 1))
                  case measure => omega
                  case rel => exact ⟨k + 1, readS r' s, .slice an r'.nums.length cn, .slice ar r'.rts.length cr, .slice aw r'.words.length cw, ts, by omega, by omega, by omega, by go_num, by omega, HST.out, by rw [HS.out]; exact H3b.out.go (Below.of_al _ _), by rw [e1, e2]; exact H5b.out.go (Below.of_al _ _), HBb.out.alloc (by have := HZb.out; omega) _⟩
        · obtain rfl : k = l.length := by omega
          have hlt3 : ¬ (l.length : Int) < (l.length : Int) := by omega
          have HV2 := Lib.hid (show readR l = r' by rw [HFD.out, List.drop_length]; rfl)
          obtain ⟨⟨an, cn, rfl⟩, ⟨ar, cr, rfl⟩, ⟨aw, cw, rfl⟩⟩ := H3.out.shapes
          have HTW := Lib.hid (HT4.out.eq (HB.out.block w.heap.size (by have := HR4.out; omega)))
          obtain ⟨p0, p1, p2, p3, p4, f0, f1, f2, f3, f4⟩ := H5.out
          obtain ⟨t0, t1, t2, t3, t4, g0, g1, g2, g3, g4⟩ := HTW.out
          go_wp2
          obtain ⟨r0, r1, r2, r3, r4, -⟩ := (HTW.out).set5 (.int .i64 r'.f) (.string r'.name) (.slice an r'.nums.length cn) (.slice ar r'.rts.length cr) (.slice aw r'.words.length cw)
          refine bodyPost_ret (v := .agg #[.int .i64 r'.f, .string r'.name, .slice an r'.nums.length cn, .slice ar r'.rts.length cr, .slice aw r'.words.length cw]) (by simp [results, Tryz.results34, go_sem, r0, r1, r2, r3, r4]; try rfl) rfl ?_
          exact ⟨_, rfl, by rw [HV2.out]; exact (H3.out.put5 (b := w.heap.size) (by have := HR4.out; omega) _ _ _ _ _).repF (by have := HR4.out; omega), bel_set5 (HB4.out.trans (HB.out.mono (by have := HR4.out; omega))) (Nat.le_refl _) _ _ _ _ _⟩

end Go.Proofs.YtelcmkccfjdmjaaGreatDoor
