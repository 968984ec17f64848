/-
  Walk of package reply: one more part of a line is put to a reply.
-/
import Derived.Test.YtelcmkccfjdmjaaGreatDoorProg
import Derived.Test.YtelcmkccfjdmjaaGreatDoorRpJ
import Derived.Laws.EntriesVeiled
namespace Go.Proofs.YtelcmkccfjdmjaaGreatDoor
open Go Go.Proofs Go.RowKit Go.Shelf Go.Sort

/-- append at a step of a region that draws its order, what else stays, and where the row lies -/
theorem step_appH {P : Program} {w : World} {ops : Array Oper} {o : Oper} {a : Act} {K : Act → World → Prop} {Q : Exit → Act → World → Prop} {F : Prop} (hgd : o.guard = none) (s x : Operand) (t : TypeId)
    (ho : o.op = .call { callee := .builtin .append, args := #[s, x], argTypes := #[t, t] })
    (base : Nat) (E : TypeId) (z : Value) (size bytes : Nat) (hE : Elem P E z size bytes) (ht : P.underlying t = some (.slice E))
    (v : Value) (n : Nat) (xs : List Value) (ad : Addr) (m c : Nat) (news : List Value) (hs : a.eval s = v) (hx : a.eval x = .slice (some ad) m c)
    (hown : w.ownsRow base E size v n xs) (hnews : ∀ j u, news[j]? = some u → w.cell? (ad.add j) = some u) (h1 : ∀ u ∈ news, u.oneCell' = true)
    (hl : news.length = m * size ∧ 0 < m ∧ n + m ≤ 9223372036854775807 ∧ (n + m) * bytes ≤ 140737488355328 ∧ base ≤ w.heap.size)
    (h : ∀ g cap w', w'.ownsRow base E size (.slice (some ⟨g, 0, none⟩) (n + m) cap) (n + m) (xs ++ news) → w.grownBy w' v.ownBlock → Below base w w' → (v.ownBlock = some g ∨ g = w.heap.size) → K (a.put o.dst (.slice (some ⟨g, 0, none⟩) (n + m) cap)) w') :
    if Region.wanted o (yielded ops a.tmps) = true then Oper.wp P o a w K Q else F := by
  obtain ⟨hE, hz1, hz2⟩ := hE
  obtain ⟨i, hi, hz, hsz, hby⟩ := info_parts hE
  obtain ⟨l1, l2, l3, l4, l5⟩ := hl
  refine step_append_lies w hgd s x t ho base E i z size bytes ht hi hz hsz hby hz1 hz2 v n xs hs hown ad m c news hx l1 hnews h1 l2 (by unfold maxLen; omega) l4 l5 _ rfl ?_
  intro g cap w' ho hg hat hlt
  exact h g cap w' ho hg ((Below.refl _ w).grown hg l5 (fun k hk => (hown.lt k hk).1)) hat

theorem rp_elemu : Elem Tryz.prog 46 (.int .u64 0) 1 8 := ⟨by kernel_rfl, rfl, by decide⟩
theorem rp_oneu (n : Int) : ∀ u ∈ [Value.int .u64 n], u.oneCell' = true := by
  intro u hu
  rw [List.mem_singleton] at hu
  subst hu
  rfl

/-- what part leaves behind -/
def PartPost (w : World) (base R Ab : Nat) (a : Nat) (r : RepD) (s : ByteArray) (e : Ending) (w' : World) : Prop :=
  e = .returned (.bool (partR a r s).2.2) ∧ (∃ vn vr vw ts, Row3 w' base (partR a r s).2.1 vn vr vw ts ∧ P5 w' R (.int .i64 r.f) (.string r.name) vn vr vw) ∧ P1 w' Ab (.int .i64 ((partR a r s).1 : Int)) ∧ Below R w w'

theorem bel_go {B : Nat} {a b c : World} (h : Below B a b) (k : Below b.heap.size b c) (hB : B ≤ a.heap.size) : Below B a c := h.trans (k.mono (Nat.le_trans hB h.size))
theorem headIs_eq (s : ByteArray) : headIs 61 s = decide (s.data.toList.head? = some 61) := rfl
theorem partR_word {a : Nat} {r : RepD} {s : ByteArray} (h0 : ¬ (a = 0 ∧ (parseI s).2 = 0)) (h1 : ¬ (a ≤ 1 ∧ (parseRt s).2 = true)) :
    partR a r s = (2, { r with words := r.words ++ [if headIs 61 s then s.extract 1 s.size else s] }, headIs 61 s && wordB (if headIs 61 s then s.extract 1 s.size else s)) := by
  unfold partR
  rw [if_neg h0, if_neg h1, headIs_eq]
  by_cases h : s.data.toList.head? = some 61
  · rw [if_pos h, decide_eq_true h]
    simp
  · rw [if_neg h, decide_eq_false h]
    simp

set_option maxRecDepth 100000 in
set_option maxHeartbeats 4000000 in
theorem part2_any (s : ByteArray) (r : RepD) (w0 w : World) (base R Ab : Nat) (vn vr vw : Value) (ts : List RtC) (hs : s.size ≤ 10000) (hR : R < Ab) (hA : Ab < base) (hz : base ≤ w.heap.size) (hn : r.words.length ≤ 1000000)
    (h3 : Row3 w base r vn vr vw ts) (h5 : P5 w R (.int .i64 r.f) (.string r.name) vn vr vw) (h1 : P1 w Ab (.int .i64 2)) (hb0 : Below R w0 w) (hz0 : R ≤ w0.heap.size) :
    Calls Tryz.prog 33 #[.pointer (some ⟨R, 0, none⟩), .string s, .pointer (some ⟨Ab, 0, none⟩)] w (PartPost w0 base R Ab 2 r s) := by
  have H3 := Lib.hid h3
  have H5 := Lib.hid h5
  have H1 := Lib.hid h1
  have HB := Lib.hid hb0
  have HZ0 := Lib.hid hz0
  have HZ := Lib.hid hz
  have HV := Lib.hid (partR_word (a := 2) (r := r) (s := s) (by omega) (by omega))
  clear h3 h5 h1 hz hb0 hz0
  obtain ⟨q0, q1⟩ := H1.out
  obtain ⟨⟨an, cn, rfl⟩, ⟨ar, cr, rfl⟩, ⟨aw, cw, rfl⟩⟩ := H3.out.shapes
  have HCP := Lib.hid (fun W => cutP_any 61 s W (by omega))
  have hxz : (if headIs 61 s then s.extract 1 s.size else s).size ≤ 10000 := by split <;> (try rw [ByteArray.size_extract]) <;> omega
  generalize (if headIs 61 s then s.extract 1 s.size else s) = x at *
  generalize headIs 61 s = hb at *
  have HRT := Lib.hid (fun W => Right_any x W (by omega))
  go_enter Tryz.func33, Tryz.ntmps33
  go_wp2_with fail
  refine (HCP.out _).mono ?_
  rintro e w7 ⟨rfl, rfl⟩
  have HO := Lib.hid H3.out.ow
  obtain ⟨p0, p1, p2, p3, p4, f0, f1, f2, f3, f4⟩ := H5.out
  cases hb with
  | true =>
    go_wp2_with (first
      | (at_builtin; go_must ((with_reducible refine wpList_app base 9 _ 1 16 rt_elem Tryz.underlying26 (.slice aw r.words.length cw) r.words.length _ ⟨w7.heap.size, 0, none⟩ 1 1 [encS x] ?_ ?_ (HO.out.alloc _) (rt_one _ _ _) (rt_ones _) ⟨rfl, by decide, by omega, by omega, by have := HZ.out; simp; omega⟩ ?_); (· rfl); (· rfl); intro g6 cap6 w6 hown hgrow hbl hat hlt6; (have HR6 := Lib.hid ((H3.out.go (Below.of_al w7 (Obj.cells #[.string x] 9))).word hown hgrow hat); have hR6 : ∀ k, (Value.slice aw r.words.length cw).ownBlock = some k → base ≤ k := fun k e => (HO.out.lt k e).1; have HP6 := Lib.hid ((H5.out.go (Below.of_al w7 (Obj.cells #[.string x] 9))).eq (hgrow.block R (by have := HZ.out; simp; omega) (fun e => by have := hR6 _ e.symm; omega))); have HA6 := Lib.hid ((H1.out.go (Below.of_al w7 (Obj.cells #[.string x] 9))).eq (hgrow.block Ab (by have := HZ.out; simp; omega) (fun e => by have := hR6 _ e.symm; omega))); have HB6 := Lib.hid ((HB.out.alloc (by have := HZ.out; omega) _).trans (hbl.mono (by omega))); clear hown hgrow hbl hat hR6; obtain ⟨c0, c1, c2, c3, c4, d0, d1, d2, d3, d4⟩ := HP6.out)))
      | (go_at_call 32; refine (HRT.out _).mono ?_; rintro e w8 ⟨rfl, hb8⟩))
    go_ret
    refine ⟨by rw [HV.out]; rfl, ⟨.slice an r.nums.length cn, .slice ar r.rts.length cr, .slice (some ⟨g6, 0, none⟩) (r.words.length + 1) cap6, ts, ?_, ?_⟩, ?_, ?_⟩
    · rw [HV.out]; exact (HR6.out.put (a := ⟨R, 4, none⟩) (by show R < base; omega) _).go hb8
    · exact (HP6.out.set4 _).go hb8
    · rw [HV.out]; exact (HA6.out.setAt (by omega) _).go hb8
    · exact bel_go (HB6.out.setCell (Nat.le_refl _) _) hb8 HZ0.out
  | false =>
    go_wp2_with (at_builtin; go_must ((with_reducible refine wpList_app base 9 _ 1 16 rt_elem Tryz.underlying26 (.slice aw r.words.length cw) r.words.length _ ⟨w7.heap.size, 0, none⟩ 1 1 [encS x] ?_ ?_ (HO.out.alloc _) (rt_one _ _ _) (rt_ones _) ⟨rfl, by decide, by omega, by omega, by have := HZ.out; simp; omega⟩ ?_); (· rfl); (· rfl); intro g6 cap6 w6 hown hgrow hbl hat hlt6; (have HR6 := Lib.hid ((H3.out.go (Below.of_al w7 (Obj.cells #[.string x] 9))).word hown hgrow hat); have hR6 : ∀ k, (Value.slice aw r.words.length cw).ownBlock = some k → base ≤ k := fun k e => (HO.out.lt k e).1; have HP6 := Lib.hid ((H5.out.go (Below.of_al w7 (Obj.cells #[.string x] 9))).eq (hgrow.block R (by have := HZ.out; simp; omega) (fun e => by have := hR6 _ e.symm; omega))); have HA6 := Lib.hid ((H1.out.go (Below.of_al w7 (Obj.cells #[.string x] 9))).eq (hgrow.block Ab (by have := HZ.out; simp; omega) (fun e => by have := hR6 _ e.symm; omega))); have HB6 := Lib.hid ((HB.out.alloc (by have := HZ.out; omega) _).trans (hbl.mono (by omega))); clear hown hgrow hbl hat hR6; obtain ⟨c0, c1, c2, c3, c4, d0, d1, d2, d3, d4⟩ := HP6.out)))
    go_ret
    refine ⟨by rw [HV.out]; rfl, ⟨.slice an r.nums.length cn, .slice ar r.rts.length cr, .slice (some ⟨g6, 0, none⟩) (r.words.length + 1) cap6, ts, ?_, ?_⟩, ?_, ?_⟩
    · rw [HV.out]; exact (HR6.out.put (a := ⟨R, 4, none⟩) (by show R < base; omega) _)
    · exact (HP6.out.set4 _)
    · rw [HV.out]; exact (HA6.out.setAt (by omega) _)
    · exact HB6.out.setCell (Nat.le_refl _) _

theorem rp_elemr : Elem Tryz.prog 48 (.agg #[.slice none 0 0, .int .u64 0]) 2 32 := ⟨by kernel_rfl, rfl, by decide⟩
theorem two_cells (w : World) (x y : Value) (T : TypeId) {k : Nat} (hk : k = w.heap.size) : ∀ j u, [x, y][j]? = some u → (w.alloc (.cells #[x, y] T)).cell? ((⟨k, 0, none⟩ : Addr).add j) = some u := by
  intro j u hu
  subst hk
  rw [Addr.add_lit]
  have := World.cell?_alloc_mark w #[x, y] T (0, 0) (0 + j)
  rw [this]
  simpa using hu
theorem encC_ones (t : RtC) : ∀ u ∈ encC t, u.oneCell' = true := by
  intro u hu
  simp [encC] at hu
  rcases hu with rfl | rfl <;> rfl

set_option maxRecDepth 100000 in
set_option maxHeartbeats 8000000 in
theorem part1_any (s : ByteArray) (r : RepD) (w0 w : World) (base R Ab : Nat) (vn vr vw : Value) (ts : List RtC) (hs : s.size ≤ 10000) (hR : R < Ab) (hA : Ab < base) (hz : base ≤ w.heap.size) (hn : r.words.length ≤ 1000000) (hm : r.rts.length ≤ 1000000)
    (h3 : Row3 w base r vn vr vw ts) (h5 : P5 w R (.int .i64 r.f) (.string r.name) vn vr vw) (h1 : P1 w Ab (.int .i64 1)) (hb0 : Below R w0 w) (hz0 : R ≤ w0.heap.size) :
    Calls Tryz.prog 33 #[.pointer (some ⟨R, 0, none⟩), .string s, .pointer (some ⟨Ab, 0, none⟩)] w (PartPost w0 base R Ab 1 r s) := by
  have HPR := Lib.hid (fun W => ParseRoute_any s W hs)
  have H3 := Lib.hid h3
  have H5 := Lib.hid h5
  have H1 := Lib.hid h1
  have HB := Lib.hid hb0
  have HZ0 := Lib.hid hz0
  have HZ := Lib.hid hz
  have hnp : ¬ (1 = 0 ∧ (parseI s).2 = 0) := by omega
  obtain ⟨q0, q1⟩ := H1.out
  obtain ⟨⟨an, cn, rfl⟩, ⟨ar, cr, rfl⟩, ⟨aw, cw, rfl⟩⟩ := H3.out.shapes
  cases hb : (parseRt s).2 with
  | true =>
    have HV := Lib.hid (show partR 1 r s = (1, { r with rts := r.rts ++ [(parseRt s).1] }, true) by unfold partR; rw [if_neg hnp, if_pos ⟨by omega, hb⟩])
    obtain ⟨q, hq⟩ : ∃ q, q = parseRt s := ⟨_, rfl⟩
    rw [← hq] at HPR HV hb
    obtain ⟨rd, q2⟩ := q
    simp only at hb
    subst hb
    clear h3 h5 h1 hb0 hz0 hz hnp hq
    go_enter Tryz.func33, Tryz.ntmps33
    go_wp2_with fail
    refine (HPR.out _).mono ?_
    rintro e w2 ⟨ao2, cap2, rfl, hc2, hb2, hf2⟩
    (have HC2 := Lib.hid hc2; have HF2 := Lib.hid (show ∀ x, ao2 = some x → base ≤ x.block ∧ (Value.slice an r.nums.length cn).ownBlock ≠ some x.block ∧ (Value.slice ar r.rts.length cr).ownBlock ≠ some x.block ∧ (Value.slice aw r.words.length cw).ownBlock ≠ some x.block from fun x hx => ⟨by have := hf2 x hx; have := HZ.out; omega, fun e => by have := hf2 x hx; have := (H3.out.on.lt _ e).2; omega, fun e => by have := hf2 x hx; have := (H3.out.orr.lt _ e).2; omega, fun e => by have := hf2 x hx; have := (H3.out.ow.lt _ e).2; omega⟩); have H3b := Lib.hid (H3.out.go hb2); have H5b := Lib.hid (H5.out.go hb2); have H1b := Lib.hid (H1.out.go hb2); have HBb := Lib.hid (bel_go HB.out hb2 HZ0.out); have HZb := Lib.hid (Nat.le_trans HZ.out hb2.size); clear hc2 hf2 hb2)
    go_wp2_with fail
    obtain ⟨K, hK⟩ : ∃ K, K = w2.heap.size := ⟨_, rfl⟩
    obtain ⟨W3, hW3⟩ : ∃ W3, W3 = w2.alloc (Obj.cells #[.slice ao2 rd.es.length cap2, .int .u64 rd.w] 48) := ⟨_, rfl⟩
    have HK3 := Lib.hid (show P2 W3 K (.slice ao2 rd.es.length cap2) (.int .u64 rd.w) by rw [hW3, hK]; exact P2.new _ _ _ _)
    have HC3 := Lib.hid (show Cel W3 ao2 (rd.es.map encI) by rw [hW3]; exact HC2.out.go (Below.of_al _ _))
    have HR3 := Lib.hid (show Row3 W3 base r (Value.slice an r.nums.length cn) (Value.slice ar r.rts.length cr) (Value.slice aw r.words.length cw) ts by rw [hW3]; exact H3b.out.go (Below.of_al _ _))
    have HP3 := Lib.hid (show P5 W3 R (.int .i64 r.f) (.string r.name) (Value.slice an r.nums.length cn) (Value.slice ar r.rts.length cr) (Value.slice aw r.words.length cw) by rw [hW3]; exact H5b.out.go (Below.of_al _ _))
    have HA3 := Lib.hid (show P1 W3 Ab (.int .i64 1) by rw [hW3]; exact H1b.out.go (Below.of_al _ _))
    have HB3 := Lib.hid (show Below R w0 W3 by rw [hW3]; exact HBb.out.alloc (by have := HZb.out; omega) _)
    have HZ3 := Lib.hid (show base ≤ W3.heap.size by rw [hW3]; have := HZb.out; simp; omega)
    have HO3 := Lib.hid HR3.out.orr
    rw [← hW3, ← hK]
    clear hK hW3 HC2 H3b H5b H1b HBb HZb H3 H5 H1 HB q0 q1
    obtain ⟨p0, p1, p2, p3, p4, f0, f1, f2, f3, f4⟩ := HP3.out
    obtain ⟨k0, k1, -, -⟩ := HK3.out
    have p3a := fun o => cell_later (Below.of_al W3 o) p3
    go_region_law (refine step_appH rfl (.tmp 48) (.tmp 50) 25 rfl base 48 _ 2 32 rp_elemr Tryz.underlying25 (.slice ar r.rts.length cr) r.rts.length (flatR ts) ⟨W3.heap.size, 0, none⟩ 1 1 [.slice ao2 rd.es.length cap2, .int .u64 rd.w] rfl rfl (World.ownsRow.alloc (owns_dr HO3.out 1) _) (two_cells _ _ _ _ rfl) (encC_ones ⟨ao2, cap2, rd⟩) ⟨rfl, by decide, by omega, by omega, by have := HZ3.out; simp; omega⟩ ?_; intro g6 cap6 w6 hown hgr hbl hat; (have hU := (Below.of_al W3 (Obj.cells #[.slice ao2 rd.es.length cap2, .int .u64 rd.w] 48)).drew; have HR6 := Lib.hid ((HR3.out.go hU).route (t := ⟨ao2, cap2, rd⟩) hown hgr hat (HC3.out.go hU) (fun x hx => (HF2.out x hx).1) (fun x hx => (HF2.out x hx).2.1) (fun x hx => (HF2.out x hx).2.2.1) (fun x hx => (HF2.out x hx).2.2.2)); have hR6 : ∀ k, (Value.slice ar r.rts.length cr).ownBlock = some k → base ≤ k := fun k e => (HO3.out.lt k e).1; have HP6 := Lib.hid ((HP3.out.go hU).eq (hgr.block R (by have := HZ3.out; have := hU.size; omega) (fun e => by have := hR6 _ e.symm; omega))); have HA6 := Lib.hid ((HA3.out.go hU).eq (hgr.block Ab (by have := HZ3.out; have := hU.size; omega) (fun e => by have := hR6 _ e.symm; omega))); have HB6 := Lib.hid ((HB3.out.trans (hU.mono (by have := HZ3.out; omega))).trans (hbl.mono (by omega))); clear hown hgr hbl hat hR6 hU; obtain ⟨c0, c1, c2, c3, c4, d0, d1, d2, d3, d4⟩ := HP6.out))
    all_goals
      go_wp2
      go_ret
      refine ⟨by rw [HV.out]; rfl, ⟨.slice an r.nums.length cn, .slice (some ⟨g6, 0, none⟩) (r.rts.length + 1) cap6, .slice aw r.words.length cw, ts ++ [⟨ao2, cap2, rd⟩], ?_, ?_⟩, ?_, ?_⟩
      · rw [HV.out]; exact HR6.out.put (a := ⟨R, 3, none⟩) (by show R < base; omega) _
      · exact HP6.out.set3 _
      · rw [HV.out]; exact HA6.out.setAt (by omega) _
      · exact HB6.out.setCell (Nat.le_refl _) _
  | false =>
    have HV := Lib.hid (partR_word (a := 1) (r := r) (s := s) hnp (by rw [hb]; simp))
    obtain ⟨q, hq⟩ : ∃ q, q = parseRt s := ⟨_, rfl⟩
    rw [← hq] at HPR hb
    obtain ⟨rd, q2⟩ := q
    simp only at hb
    subst hb
    clear h3 h5 h1 hb0 hz0 hz hnp hq
    have HCP := Lib.hid (fun W => cutP_any 61 s W (by omega))
    have hxz : (if headIs 61 s then s.extract 1 s.size else s).size ≤ 10000 := by split <;> (try rw [ByteArray.size_extract]) <;> omega
    generalize (if headIs 61 s then s.extract 1 s.size else s) = x at *
    generalize headIs 61 s = hb at *
    have HRT := Lib.hid (fun W => Right_any x W (by omega))
    go_enter Tryz.func33, Tryz.ntmps33
    go_wp2_with fail
    refine (HPR.out _).mono ?_
    rintro e w2 ⟨ao2, cap2, rfl, hc2, hb2, hf2⟩
    (have HC2 := Lib.hid hc2; have HF2 := Lib.hid (show ∀ x, ao2 = some x → base ≤ x.block ∧ (Value.slice an r.nums.length cn).ownBlock ≠ some x.block ∧ (Value.slice ar r.rts.length cr).ownBlock ≠ some x.block ∧ (Value.slice aw r.words.length cw).ownBlock ≠ some x.block from fun x hx => ⟨by have := hf2 x hx; have := HZ.out; omega, fun e => by have := hf2 x hx; have := (H3.out.on.lt _ e).2; omega, fun e => by have := hf2 x hx; have := (H3.out.orr.lt _ e).2; omega, fun e => by have := hf2 x hx; have := (H3.out.ow.lt _ e).2; omega⟩); have H3b := Lib.hid (H3.out.go hb2); have H5b := Lib.hid (H5.out.go hb2); have H1b := Lib.hid (H1.out.go hb2); have HBb := Lib.hid (bel_go HB.out hb2 HZ0.out); have HZb := Lib.hid (Nat.le_trans HZ.out hb2.size); clear hc2 hf2 hb2)
    obtain ⟨t0, t1⟩ := H1b.out.go (Below.of_al w2 (Obj.cells #[.slice ao2 rd.es.length cap2, .int .u64 rd.w] 48))
    go_wp2_with fail
    clear H3 H5 H1 HB HZ q0 q1 t0 t1
    obtain ⟨W7, hW7⟩ : ∃ W7, W7 = (w2.alloc (Obj.cells #[.slice ao2 rd.es.length cap2, .int .u64 rd.w] 48)).setCell ⟨Ab, 0, none⟩ (.int .i64 2) := ⟨_, rfl⟩
    rw [← hW7]
    have H3 := Lib.hid (show Row3 W7 base r (Value.slice an r.nums.length cn) (Value.slice ar r.rts.length cr) (Value.slice aw r.words.length cw) ts by rw [hW7]; exact (H3b.out.go (Below.of_al _ _)).put (a := ⟨Ab, 0, none⟩) (by show Ab < base; omega) _)
    have H5 := Lib.hid (show P5 W7 R (.int .i64 r.f) (.string r.name) (Value.slice an r.nums.length cn) (Value.slice ar r.rts.length cr) (Value.slice aw r.words.length cw) by rw [hW7]; exact (H5b.out.go (Below.of_al _ _)).setAt (by omega) _)
    have H1 := Lib.hid (show P1 W7 Ab (.int .i64 2) by rw [hW7]; exact (H1b.out.go (Below.of_al _ _)).set _)
    have HB := Lib.hid (show Below R w0 W7 by rw [hW7]; exact (HBb.out.alloc (by have := HZb.out; omega) _).setCell (show R ≤ Ab by omega) _)
    have HZ := Lib.hid (show base ≤ W7.heap.size by rw [hW7]; have := HZb.out; simp [World.setCell]; omega)
    clear hW7 H3b H5b H1b HBb HZb HF2 HC2 HPR
    refine (HCP.out _).mono ?_
    rintro e w7 ⟨rfl, rfl⟩
    have HO := Lib.hid H3.out.ow
    obtain ⟨p0, p1, p2, p3, p4, f0, f1, f2, f3, f4⟩ := H5.out
    cases hb with
    | true =>
      go_wp2_with (first
        | (at_builtin; go_must ((with_reducible refine wpList_app base 9 _ 1 16 rt_elem Tryz.underlying26 (.slice aw r.words.length cw) r.words.length _ ⟨w7.heap.size, 0, none⟩ 1 1 [encS x] ?_ ?_ (HO.out.alloc _) (rt_one _ _ _) (rt_ones _) ⟨rfl, by decide, by omega, by omega, by have := HZ.out; simp; omega⟩ ?_); (· rfl); (· rfl); intro g6 cap6 w6 hown hgrow hbl hat hlt6; (have HR6 := Lib.hid ((H3.out.go (Below.of_al w7 (Obj.cells #[.string x] 9))).word hown hgrow hat); have hR6 : ∀ k, (Value.slice aw r.words.length cw).ownBlock = some k → base ≤ k := fun k e => (HO.out.lt k e).1; have HP6 := Lib.hid ((H5.out.go (Below.of_al w7 (Obj.cells #[.string x] 9))).eq (hgrow.block R (by have := HZ.out; simp; omega) (fun e => by have := hR6 _ e.symm; omega))); have HA6 := Lib.hid ((H1.out.go (Below.of_al w7 (Obj.cells #[.string x] 9))).eq (hgrow.block Ab (by have := HZ.out; simp; omega) (fun e => by have := hR6 _ e.symm; omega))); have HB6 := Lib.hid ((HB.out.alloc (by have := HZ.out; omega) _).trans (hbl.mono (by omega))); clear hown hgrow hbl hat hR6; obtain ⟨c0, c1, c2, c3, c4, d0, d1, d2, d3, d4⟩ := HP6.out)))
        | (go_at_call 32; refine (HRT.out _).mono ?_; rintro e w8 ⟨rfl, hb8⟩))
      go_ret
      refine ⟨by rw [HV.out]; rfl, ⟨.slice an r.nums.length cn, .slice ar r.rts.length cr, .slice (some ⟨g6, 0, none⟩) (r.words.length + 1) cap6, ts, ?_, ?_⟩, ?_, ?_⟩
      · rw [HV.out]; exact (HR6.out.put (a := ⟨R, 4, none⟩) (by show R < base; omega) _).go hb8
      · exact (HP6.out.set4 _).go hb8
      · rw [HV.out]; exact (HA6.out.setAt (by omega) _).go hb8
      · exact bel_go (HB6.out.setCell (Nat.le_refl _) _) hb8 HZ0.out
    | false =>
      go_wp2_with (at_builtin; go_must ((with_reducible refine wpList_app base 9 _ 1 16 rt_elem Tryz.underlying26 (.slice aw r.words.length cw) r.words.length _ ⟨w7.heap.size, 0, none⟩ 1 1 [encS x] ?_ ?_ (HO.out.alloc _) (rt_one _ _ _) (rt_ones _) ⟨rfl, by decide, by omega, by omega, by have := HZ.out; simp; omega⟩ ?_); (· rfl); (· rfl); intro g6 cap6 w6 hown hgrow hbl hat hlt6; (have HR6 := Lib.hid ((H3.out.go (Below.of_al w7 (Obj.cells #[.string x] 9))).word hown hgrow hat); have hR6 : ∀ k, (Value.slice aw r.words.length cw).ownBlock = some k → base ≤ k := fun k e => (HO.out.lt k e).1; have HP6 := Lib.hid ((H5.out.go (Below.of_al w7 (Obj.cells #[.string x] 9))).eq (hgrow.block R (by have := HZ.out; simp; omega) (fun e => by have := hR6 _ e.symm; omega))); have HA6 := Lib.hid ((H1.out.go (Below.of_al w7 (Obj.cells #[.string x] 9))).eq (hgrow.block Ab (by have := HZ.out; simp; omega) (fun e => by have := hR6 _ e.symm; omega))); have HB6 := Lib.hid ((HB.out.alloc (by have := HZ.out; omega) _).trans (hbl.mono (by omega))); clear hown hgrow hbl hat hR6; obtain ⟨c0, c1, c2, c3, c4, d0, d1, d2, d3, d4⟩ := HP6.out)))
      go_ret
      refine ⟨by rw [HV.out]; rfl, ⟨.slice an r.nums.length cn, .slice ar r.rts.length cr, .slice (some ⟨g6, 0, none⟩) (r.words.length + 1) cap6, ts, ?_, ?_⟩, ?_, ?_⟩
      · rw [HV.out]; exact (HR6.out.put (a := ⟨R, 4, none⟩) (by show R < base; omega) _)
      · exact (HP6.out.set4 _)
      · rw [HV.out]; exact (HA6.out.setAt (by omega) _)
      · exact HB6.out.setCell (Nat.le_refl _) _

set_option maxRecDepth 100000 in
set_option maxHeartbeats 8000000 in
theorem part0_any (s : ByteArray) (r : RepD) (w0 w : World) (base R Ab : Nat) (vn vr vw : Value) (ts : List RtC) (hs : s.size ≤ 10000) (hR : R < Ab) (hA : Ab < base) (hz : base ≤ w.heap.size) (hn : r.words.length ≤ 1000000) (hm : r.rts.length ≤ 1000000) (hk : r.nums.length ≤ 1000000)
    (h3 : Row3 w base r vn vr vw ts) (h5 : P5 w R (.int .i64 r.f) (.string r.name) vn vr vw) (h1 : P1 w Ab (.int .i64 0)) (hb0 : Below R w0 w) (hz0 : R ≤ w0.heap.size) :
    Calls Tryz.prog 33 #[.pointer (some ⟨R, 0, none⟩), .string s, .pointer (some ⟨Ab, 0, none⟩)] w (PartPost w0 base R Ab 0 r s) := by
  have HPR := Lib.hid (fun W => ParseRoute_any s W hs)
  have HPI := Lib.hid (show ∀ W, Calls Tryz.prog 80 #[.string s] W fun e w' => e = .returned (.tuple #[.int .u64 (parseI s).1, .int .i64 (parseI s).2]) ∧ Below W.heap.size W w' from fun W => Parse_any _ W (by omega))
  have H3 := Lib.hid h3
  have H5 := Lib.hid h5
  have H1 := Lib.hid h1
  have HB := Lib.hid hb0
  have HZ0 := Lib.hid hz0
  have HZ := Lib.hid hz
  obtain ⟨q0, q1⟩ := H1.out
  by_cases hp : (parseI s).2 = 0
  · have HV := Lib.hid (show partR 0 r s = (0, { r with nums := r.nums ++ [(parseI s).1] }, true) by unfold partR; rw [if_pos ⟨rfl, hp⟩])
    rw [hp] at HPI
    obtain ⟨⟨an, cn, rfl⟩, ⟨ar, cr, rfl⟩, ⟨aw, cw, rfl⟩⟩ := H3.out.shapes
    obtain ⟨p0, p1, p2, p3, p4, f0, f1, f2, f3, f4⟩ := H5.out
    generalize (parseI s).1 = y at *
    clear h3 h5 h1 hb0 hz0 hz hp HPR p0 p1 p2 p3 p4 f0 f1 f2 f3 f4
    go_enter Tryz.func33, Tryz.ntmps33
    go_wp2_with (first
      | (go_at_call 80; refine (HPI.out _).mono ?_; rintro e w1 ⟨rfl, hb1⟩; (have H3b := Lib.hid (H3.out.go hb1); have H5b := Lib.hid (H5.out.go hb1); have H1b := Lib.hid (H1.out.go hb1); have HBb := Lib.hid (bel_go HB.out hb1 HZ0.out); have HZb := Lib.hid (Nat.le_trans HZ.out hb1.size); have HO := Lib.hid (H3.out.go hb1).on; clear hb1; obtain ⟨p0, p1, p2, p3, p4, f0, f1, f2, f3, f4⟩ := H5b.out))
      | (at_builtin; go_must ((with_reducible refine wpList_app base 46 _ 1 8 rp_elemu Tryz.underlying24 (.slice an r.nums.length cn) r.nums.length _ ⟨w1.heap.size, 0, none⟩ 1 1 [.int .u64 y] ?_ ?_ (HO.out.alloc _) (rt_one _ _ _) (rp_oneu _) ⟨rfl, by decide, by omega, by omega, by have := HZb.out; simp; omega⟩ ?_); (· rfl); (· rfl); intro g6 cap6 w6 hown hgrow hbl hat hlt6; (have HR6 := Lib.hid ((H3b.out.go (Below.of_al w1 (Obj.cells #[.int .u64 y] 46))).num hown hgrow hat); have hR6 : ∀ k, (Value.slice an r.nums.length cn).ownBlock = some k → base ≤ k := fun k e => (HO.out.lt k e).1; have HP6 := Lib.hid ((H5b.out.go (Below.of_al w1 (Obj.cells #[.int .u64 y] 46))).eq (hgrow.block R (by have := HZb.out; simp; omega) (fun e => by have := hR6 _ e.symm; omega))); have HA6 := Lib.hid ((H1b.out.go (Below.of_al w1 (Obj.cells #[.int .u64 y] 46))).eq (hgrow.block Ab (by have := HZb.out; simp; omega) (fun e => by have := hR6 _ e.symm; omega))); have HB6 := Lib.hid ((HBb.out.alloc (by have := HZb.out; omega) _).trans (hbl.mono (by omega))); clear hown hgrow hbl hat hR6; obtain ⟨c0, c1, c2, c3, c4, d0, d1, d2, d3, d4⟩ := HP6.out))))
    go_ret
    refine ⟨by rw [HV.out]; rfl, ⟨.slice (some ⟨g6, 0, none⟩) (r.nums.length + 1) cap6, .slice ar r.rts.length cr, .slice aw r.words.length cw, ts, ?_, ?_⟩, ?_, ?_⟩
    · rw [HV.out]; exact HR6.out.put (a := ⟨R, 2, none⟩) (by show R < base; omega) _
    · exact HP6.out.set2 _
    · rw [HV.out]; exact HA6.out.setAt (by omega) _
    · exact HB6.out.setCell (Nat.le_refl _) _
  · have hnp : ¬ (0 = 0 ∧ (parseI s).2 = 0) := by simpa using hp
    have hp2 : ((parseI s).2 == 0) = false := by simpa using hp
    clear hp
    obtain ⟨⟨an, cn, rfl⟩, ⟨ar, cr, rfl⟩, ⟨aw, cw, rfl⟩⟩ := H3.out.shapes
    cases hb : (parseRt s).2 with
    | true =>
      have HV := Lib.hid (show partR 0 r s = (1, { r with rts := r.rts ++ [(parseRt s).1] }, true) by unfold partR; rw [if_neg hnp, if_pos ⟨by omega, hb⟩])
      obtain ⟨q, hq⟩ : ∃ q, q = parseRt s := ⟨_, rfl⟩
      rw [← hq] at HPR HV hb
      obtain ⟨rd, q2⟩ := q
      simp only at hb
      subst hb
      clear h3 h5 h1 hb0 hz0 hz hnp hq
      go_enter Tryz.func33, Tryz.ntmps33
      go_wp2_with (go_at_call 80; refine (HPI.out _).mono ?_; rintro e w1 ⟨rfl, hb1⟩; obtain ⟨t0, t1⟩ := H1.out.go hb1)
      obtain ⟨W5, hW5⟩ : ∃ W5, W5 = w1.setCell ⟨Ab, 0, none⟩ (.int .i64 1) := ⟨_, rfl⟩
      rw [← hW5]
      have H3 := Lib.hid (show Row3 W5 base r (Value.slice an r.nums.length cn) (Value.slice ar r.rts.length cr) (Value.slice aw r.words.length cw) ts by rw [hW5]; exact (H3.out.go hb1).put (a := ⟨Ab, 0, none⟩) (by show Ab < base; omega) _)
      have H5 := Lib.hid (show P5 W5 R (.int .i64 r.f) (.string r.name) (Value.slice an r.nums.length cn) (Value.slice ar r.rts.length cr) (Value.slice aw r.words.length cw) by rw [hW5]; exact (H5.out.go hb1).setAt (by omega) _)
      have H1 := Lib.hid (show P1 W5 Ab (.int .i64 1) by rw [hW5]; exact (H1.out.go hb1).set _)
      have HB := Lib.hid (show Below R w0 W5 by rw [hW5]; exact (bel_go HB.out hb1 HZ0.out).setCell (show R ≤ Ab by omega) _)
      have HZ := Lib.hid (show base ≤ W5.heap.size by rw [hW5]; have := HZ.out; have := hb1.size; simp [World.setCell]; omega)
      clear hW5 hb1 t0 t1
      refine (HPR.out _).mono ?_
      rintro e w2 ⟨ao2, cap2, rfl, hc2, hb2, hf2⟩
      (have HC2 := Lib.hid hc2; have HF2 := Lib.hid (show ∀ x, ao2 = some x → base ≤ x.block ∧ (Value.slice an r.nums.length cn).ownBlock ≠ some x.block ∧ (Value.slice ar r.rts.length cr).ownBlock ≠ some x.block ∧ (Value.slice aw r.words.length cw).ownBlock ≠ some x.block from fun x hx => ⟨by have := hf2 x hx; have := HZ.out; omega, fun e => by have := hf2 x hx; have := (H3.out.on.lt _ e).2; omega, fun e => by have := hf2 x hx; have := (H3.out.orr.lt _ e).2; omega, fun e => by have := hf2 x hx; have := (H3.out.ow.lt _ e).2; omega⟩); have H3b := Lib.hid (H3.out.go hb2); have H5b := Lib.hid (H5.out.go hb2); have H1b := Lib.hid (H1.out.go hb2); have HBb := Lib.hid (bel_go HB.out hb2 HZ0.out); have HZb := Lib.hid (Nat.le_trans HZ.out hb2.size); clear hc2 hf2 hb2)
      go_wp2_with fail
      obtain ⟨K, hK⟩ : ∃ K, K = w2.heap.size := ⟨_, rfl⟩
      obtain ⟨W3, hW3⟩ : ∃ W3, W3 = w2.alloc (Obj.cells #[.slice ao2 rd.es.length cap2, .int .u64 rd.w] 48) := ⟨_, rfl⟩
      have HK3 := Lib.hid (show P2 W3 K (.slice ao2 rd.es.length cap2) (.int .u64 rd.w) by rw [hW3, hK]; exact P2.new _ _ _ _)
      have HC3 := Lib.hid (show Cel W3 ao2 (rd.es.map encI) by rw [hW3]; exact HC2.out.go (Below.of_al _ _))
      have HR3 := Lib.hid (show Row3 W3 base r (Value.slice an r.nums.length cn) (Value.slice ar r.rts.length cr) (Value.slice aw r.words.length cw) ts by rw [hW3]; exact H3b.out.go (Below.of_al _ _))
      have HP3 := Lib.hid (show P5 W3 R (.int .i64 r.f) (.string r.name) (Value.slice an r.nums.length cn) (Value.slice ar r.rts.length cr) (Value.slice aw r.words.length cw) by rw [hW3]; exact H5b.out.go (Below.of_al _ _))
      have HA3 := Lib.hid (show P1 W3 Ab (.int .i64 1) by rw [hW3]; exact H1b.out.go (Below.of_al _ _))
      have HB3 := Lib.hid (show Below R w0 W3 by rw [hW3]; exact HBb.out.alloc (by have := HZb.out; omega) _)
      have HZ3 := Lib.hid (show base ≤ W3.heap.size by rw [hW3]; have := HZb.out; simp; omega)
      have HO3 := Lib.hid HR3.out.orr
      rw [← hW3, ← hK]
      clear hK hW3 HC2 H3b H5b H1b HBb HZb H3 H5 H1 HB q0 q1
      obtain ⟨p0, p1, p2, p3, p4, f0, f1, f2, f3, f4⟩ := HP3.out
      obtain ⟨k0, k1, -, -⟩ := HK3.out
      have p3a := fun o => cell_later (Below.of_al W3 o) p3
      go_region_law (refine step_appH rfl (.tmp 48) (.tmp 50) 25 rfl base 48 _ 2 32 rp_elemr Tryz.underlying25 (.slice ar r.rts.length cr) r.rts.length (flatR ts) ⟨W3.heap.size, 0, none⟩ 1 1 [.slice ao2 rd.es.length cap2, .int .u64 rd.w] rfl rfl (World.ownsRow.alloc (owns_dr HO3.out 1) _) (two_cells _ _ _ _ rfl) (encC_ones ⟨ao2, cap2, rd⟩) ⟨rfl, by decide, by omega, by omega, by have := HZ3.out; simp; omega⟩ ?_; intro g6 cap6 w6 hown hgr hbl hat; (have hU := (Below.of_al W3 (Obj.cells #[.slice ao2 rd.es.length cap2, .int .u64 rd.w] 48)).drew; have HR6 := Lib.hid ((HR3.out.go hU).route (t := ⟨ao2, cap2, rd⟩) hown hgr hat (HC3.out.go hU) (fun x hx => (HF2.out x hx).1) (fun x hx => (HF2.out x hx).2.1) (fun x hx => (HF2.out x hx).2.2.1) (fun x hx => (HF2.out x hx).2.2.2)); have hR6 : ∀ k, (Value.slice ar r.rts.length cr).ownBlock = some k → base ≤ k := fun k e => (HO3.out.lt k e).1; have HP6 := Lib.hid ((HP3.out.go hU).eq (hgr.block R (by have := HZ3.out; have := hU.size; omega) (fun e => by have := hR6 _ e.symm; omega))); have HA6 := Lib.hid ((HA3.out.go hU).eq (hgr.block Ab (by have := HZ3.out; have := hU.size; omega) (fun e => by have := hR6 _ e.symm; omega))); have HB6 := Lib.hid ((HB3.out.trans (hU.mono (by have := HZ3.out; omega))).trans (hbl.mono (by omega))); clear hown hgr hbl hat hR6 hU; obtain ⟨c0, c1, c2, c3, c4, d0, d1, d2, d3, d4⟩ := HP6.out))
      all_goals
        go_wp2
        go_ret
        refine ⟨by rw [HV.out]; rfl, ⟨.slice an r.nums.length cn, .slice (some ⟨g6, 0, none⟩) (r.rts.length + 1) cap6, .slice aw r.words.length cw, ts ++ [⟨ao2, cap2, rd⟩], ?_, ?_⟩, ?_, ?_⟩
        · rw [HV.out]; exact HR6.out.put (a := ⟨R, 3, none⟩) (by show R < base; omega) _
        · exact HP6.out.set3 _
        · rw [HV.out]; exact HA6.out.setAt (by omega) _
        · exact HB6.out.setCell (Nat.le_refl _) _
    | false =>
      have HV := Lib.hid (partR_word (a := 0) (r := r) (s := s) hnp (by rw [hb]; simp))
      obtain ⟨q, hq⟩ : ∃ q, q = parseRt s := ⟨_, rfl⟩
      rw [← hq] at HPR hb
      obtain ⟨rd, q2⟩ := q
      simp only at hb
      subst hb
      clear h3 h5 h1 hb0 hz0 hz hnp hq
      have HCP := Lib.hid (fun W => cutP_any 61 s W (by omega))
      have hxz : (if headIs 61 s then s.extract 1 s.size else s).size ≤ 10000 := by split <;> (try rw [ByteArray.size_extract]) <;> omega
      generalize (if headIs 61 s then s.extract 1 s.size else s) = x at *
      generalize headIs 61 s = hb at *
      have HRT := Lib.hid (fun W => Right_any x W (by omega))
      go_enter Tryz.func33, Tryz.ntmps33
      go_wp2_with (go_at_call 80; refine (HPI.out _).mono ?_; rintro e w1 ⟨rfl, hb1⟩; obtain ⟨t0, t1⟩ := H1.out.go hb1)
      obtain ⟨W5, hW5⟩ : ∃ W5, W5 = w1.setCell ⟨Ab, 0, none⟩ (.int .i64 1) := ⟨_, rfl⟩
      rw [← hW5]
      have H3 := Lib.hid (show Row3 W5 base r (Value.slice an r.nums.length cn) (Value.slice ar r.rts.length cr) (Value.slice aw r.words.length cw) ts by rw [hW5]; exact (H3.out.go hb1).put (a := ⟨Ab, 0, none⟩) (by show Ab < base; omega) _)
      have H5 := Lib.hid (show P5 W5 R (.int .i64 r.f) (.string r.name) (Value.slice an r.nums.length cn) (Value.slice ar r.rts.length cr) (Value.slice aw r.words.length cw) by rw [hW5]; exact (H5.out.go hb1).setAt (by omega) _)
      have H1 := Lib.hid (show P1 W5 Ab (.int .i64 1) by rw [hW5]; exact (H1.out.go hb1).set _)
      have HB := Lib.hid (show Below R w0 W5 by rw [hW5]; exact (bel_go HB.out hb1 HZ0.out).setCell (show R ≤ Ab by omega) _)
      have HZ := Lib.hid (show base ≤ W5.heap.size by rw [hW5]; have := HZ.out; have := hb1.size; simp [World.setCell]; omega)
      clear hW5 hb1 t0 t1
      refine (HPR.out _).mono ?_
      rintro e w2 ⟨ao2, cap2, rfl, hc2, hb2, hf2⟩
      (have HC2 := Lib.hid hc2; have HF2 := Lib.hid (show ∀ x, ao2 = some x → base ≤ x.block ∧ (Value.slice an r.nums.length cn).ownBlock ≠ some x.block ∧ (Value.slice ar r.rts.length cr).ownBlock ≠ some x.block ∧ (Value.slice aw r.words.length cw).ownBlock ≠ some x.block from fun x hx => ⟨by have := hf2 x hx; have := HZ.out; omega, fun e => by have := hf2 x hx; have := (H3.out.on.lt _ e).2; omega, fun e => by have := hf2 x hx; have := (H3.out.orr.lt _ e).2; omega, fun e => by have := hf2 x hx; have := (H3.out.ow.lt _ e).2; omega⟩); have H3b := Lib.hid (H3.out.go hb2); have H5b := Lib.hid (H5.out.go hb2); have H1b := Lib.hid (H1.out.go hb2); have HBb := Lib.hid (bel_go HB.out hb2 HZ0.out); have HZb := Lib.hid (Nat.le_trans HZ.out hb2.size); clear hc2 hf2 hb2)
      obtain ⟨t0, t1⟩ := H1b.out.go (Below.of_al w2 (Obj.cells #[.slice ao2 rd.es.length cap2, .int .u64 rd.w] 48))
      go_wp2_with fail
      clear H3 H5 H1 HB HZ q0 q1 t0 t1
      obtain ⟨W7, hW7⟩ : ∃ W7, W7 = (w2.alloc (Obj.cells #[.slice ao2 rd.es.length cap2, .int .u64 rd.w] 48)).setCell ⟨Ab, 0, none⟩ (.int .i64 2) := ⟨_, rfl⟩
      rw [← hW7]
      have H3 := Lib.hid (show Row3 W7 base r (Value.slice an r.nums.length cn) (Value.slice ar r.rts.length cr) (Value.slice aw r.words.length cw) ts by rw [hW7]; exact (H3b.out.go (Below.of_al _ _)).put (a := ⟨Ab, 0, none⟩) (by show Ab < base; omega) _)
      have H5 := Lib.hid (show P5 W7 R (.int .i64 r.f) (.string r.name) (Value.slice an r.nums.length cn) (Value.slice ar r.rts.length cr) (Value.slice aw r.words.length cw) by rw [hW7]; exact (H5b.out.go (Below.of_al _ _)).setAt (by omega) _)
      have H1 := Lib.hid (show P1 W7 Ab (.int .i64 2) by rw [hW7]; exact (H1b.out.go (Below.of_al _ _)).set _)
      have HB := Lib.hid (show Below R w0 W7 by rw [hW7]; exact (HBb.out.alloc (by have := HZb.out; omega) _).setCell (show R ≤ Ab by omega) _)
      have HZ := Lib.hid (show base ≤ W7.heap.size by rw [hW7]; have := HZb.out; simp [World.setCell]; omega)
      clear hW7 H3b H5b H1b HBb HZb HF2 HC2 HPR
      refine (HCP.out _).mono ?_
      rintro e w7 ⟨rfl, rfl⟩
      have HO := Lib.hid H3.out.ow
      obtain ⟨p0, p1, p2, p3, p4, f0, f1, f2, f3, f4⟩ := H5.out
      cases hb with
      | true =>
        go_wp2_with (first
          | (at_builtin; go_must ((with_reducible refine wpList_app base 9 _ 1 16 rt_elem Tryz.underlying26 (.slice aw r.words.length cw) r.words.length _ ⟨w7.heap.size, 0, none⟩ 1 1 [encS x] ?_ ?_ (HO.out.alloc _) (rt_one _ _ _) (rt_ones _) ⟨rfl, by decide, by omega, by omega, by have := HZ.out; simp; omega⟩ ?_); (· rfl); (· rfl); intro g6 cap6 w6 hown hgrow hbl hat hlt6; (have HR6 := Lib.hid ((H3.out.go (Below.of_al w7 (Obj.cells #[.string x] 9))).word hown hgrow hat); have hR6 : ∀ k, (Value.slice aw r.words.length cw).ownBlock = some k → base ≤ k := fun k e => (HO.out.lt k e).1; have HP6 := Lib.hid ((H5.out.go (Below.of_al w7 (Obj.cells #[.string x] 9))).eq (hgrow.block R (by have := HZ.out; simp; omega) (fun e => by have := hR6 _ e.symm; omega))); have HA6 := Lib.hid ((H1.out.go (Below.of_al w7 (Obj.cells #[.string x] 9))).eq (hgrow.block Ab (by have := HZ.out; simp; omega) (fun e => by have := hR6 _ e.symm; omega))); have HB6 := Lib.hid ((HB.out.alloc (by have := HZ.out; omega) _).trans (hbl.mono (by omega))); clear hown hgrow hbl hat hR6; obtain ⟨c0, c1, c2, c3, c4, d0, d1, d2, d3, d4⟩ := HP6.out)))
          | (go_at_call 32; refine (HRT.out _).mono ?_; rintro e w8 ⟨rfl, hb8⟩))
        go_ret
        refine ⟨by rw [HV.out]; rfl, ⟨.slice an r.nums.length cn, .slice ar r.rts.length cr, .slice (some ⟨g6, 0, none⟩) (r.words.length + 1) cap6, ts, ?_, ?_⟩, ?_, ?_⟩
        · rw [HV.out]; exact (HR6.out.put (a := ⟨R, 4, none⟩) (by show R < base; omega) _).go hb8
        · exact (HP6.out.set4 _).go hb8
        · rw [HV.out]; exact (HA6.out.setAt (by omega) _).go hb8
        · exact bel_go (HB6.out.setCell (Nat.le_refl _) _) hb8 HZ0.out
      | false =>
        go_wp2_with (at_builtin; go_must ((with_reducible refine wpList_app base 9 _ 1 16 rt_elem Tryz.underlying26 (.slice aw r.words.length cw) r.words.length _ ⟨w7.heap.size, 0, none⟩ 1 1 [encS x] ?_ ?_ (HO.out.alloc _) (rt_one _ _ _) (rt_ones _) ⟨rfl, by decide, by omega, by omega, by have := HZ.out; simp; omega⟩ ?_); (· rfl); (· rfl); intro g6 cap6 w6 hown hgrow hbl hat hlt6; (have HR6 := Lib.hid ((H3.out.go (Below.of_al w7 (Obj.cells #[.string x] 9))).word hown hgrow hat); have hR6 : ∀ k, (Value.slice aw r.words.length cw).ownBlock = some k → base ≤ k := fun k e => (HO.out.lt k e).1; have HP6 := Lib.hid ((H5.out.go (Below.of_al w7 (Obj.cells #[.string x] 9))).eq (hgrow.block R (by have := HZ.out; simp; omega) (fun e => by have := hR6 _ e.symm; omega))); have HA6 := Lib.hid ((H1.out.go (Below.of_al w7 (Obj.cells #[.string x] 9))).eq (hgrow.block Ab (by have := HZ.out; simp; omega) (fun e => by have := hR6 _ e.symm; omega))); have HB6 := Lib.hid ((HB.out.alloc (by have := HZ.out; omega) _).trans (hbl.mono (by omega))); clear hown hgrow hbl hat hR6; obtain ⟨c0, c1, c2, c3, c4, d0, d1, d2, d3, d4⟩ := HP6.out)))
        go_ret
        refine ⟨by rw [HV.out]; rfl, ⟨.slice an r.nums.length cn, .slice ar r.rts.length cr, .slice (some ⟨g6, 0, none⟩) (r.words.length + 1) cap6, ts, ?_, ?_⟩, ?_, ?_⟩
        · rw [HV.out]; exact (HR6.out.put (a := ⟨R, 4, none⟩) (by show R < base; omega) _)
        · exact (HP6.out.set4 _)
        · rw [HV.out]; exact (HA6.out.setAt (by omega) _)
        · exact HB6.out.setCell (Nat.le_refl _) _

end Go.Proofs.YtelcmkccfjdmjaaGreatDoor
