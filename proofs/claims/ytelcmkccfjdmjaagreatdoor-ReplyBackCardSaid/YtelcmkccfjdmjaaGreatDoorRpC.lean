/-
  Walk of package reply: the route of a text.
-/
import Derived.Test.YtelcmkccfjdmjaaGreatDoorProg
import Derived.Test.YtelcmkccfjdmjaaGreatDoorRpB
import Derived.Test.YtelcmkccfjdmjaaGreatDoorNumLaw
import Derived.RangeFuncNested
import Derived.RangeFuncBound
import Derived.Shelf.RegionOpen
import Derived.OwnWalkIn
import Derived.TacticsInMore
import Derived.LoopNIn
import Derived.LoopIn
import Derived.Maps.AppendAt
namespace Go.Proofs.YtelcmkccfjdmjaaGreatDoor
open Go Go.Proofs Go.RowKit Go.Shelf Go.Sort
attribute [local go_sem] Oper.semAt_some

/-- the boxes of strings.SplitSeq -/
abbrev seqWp (s sep : ByteArray) (w : World) : World := ((w.alloc (.cells #[.string s] 9)).alloc (.cells #[.string sep] 9)).alloc (.cells #[.int .i64 0] 3)
abbrev seqVp (B : Nat) : Value := .func (.func 197) #[] #[.pointer (some ⟨B + 1, 0, none⟩), .pointer (some ⟨B, 0, none⟩), .pointer (some ⟨B + 2, 0, none⟩)]
theorem splitSeqp_any (s sep : ByteArray) (w : World) : Calls Tryz.prog 164 #[.string s, .string sep, .int .i64 0] w fun e w' => e = .returned (seqVp w.heap.size) ∧ w' = seqWp s sep w := by
  go_enter Tryz.func164, Tryz.ntmps164
  go_wp2
  go_ret
  exact ⟨rfl, rfl⟩
theorem SplitSeqp_any (s sep : ByteArray) (w : World) : Calls Tryz.prog 125 #[.string s, .string sep] w fun e w' => e = .returned (seqVp w.heap.size) ∧ w' = seqWp s sep w := by
  have HS := Lib.hid (splitSeqp_any s sep w)
  go_enter Tryz.func125, Tryz.ntmps125
  go_wp2_with (go_at_call 164; refine HS.out.mono ?_; rintro e w1 ⟨rfl, rfl⟩)
  go_ret
  exact ⟨rfl, rfl⟩

/-- a block of two cells -/
def P2 (W : World) (b : Nat) (x y : Value) : Prop := W.cell? ⟨b, 0, none⟩ = some x ∧ W.cell? ⟨b, 1, none⟩ = some y ∧ W.frozen? ⟨b, 0, none⟩ = false ∧ W.frozen? ⟨b, 1, none⟩ = false
theorem P2.new (w : World) (T : TypeId) (x y : Value) : P2 (w.alloc (.cells #[x, y] T)) w.heap.size x y := ⟨by go_simp, by go_simp, by go_simp, by go_simp⟩
theorem P2.lt {W : World} {b : Nat} {x y : Value} (h : P2 W b x y) : b < W.heap.size := World.block_lt_of_cell? _ _ h.1
theorem P2.eq {W W' : World} {b : Nat} {x y : Value} (h : P2 W b x y) (he : W'.heap[b]? = W.heap[b]?) : P2 W' b x y :=
  ⟨(World.cell?_of_block (w := W) (a := ⟨b, 0, none⟩) he).trans h.1, (World.cell?_of_block (w := W) (a := ⟨b, 1, none⟩) he).trans h.2.1, (World.frozen?_of_block (w := W) (a := ⟨b, 0, none⟩) he).trans h.2.2.1, (World.frozen?_of_block (w := W) (a := ⟨b, 1, none⟩) he).trans h.2.2.2⟩
theorem P2.go {W W' : World} {b : Nat} {x y : Value} (h : P2 W b x y) (hb : Below W.heap.size W W') : P2 W' b x y := h.eq (hb.block b h.lt)
theorem P2.set0 {W : World} {b : Nat} {x y : Value} (h : P2 W b x y) (u : Value) : P2 (W.setCell ⟨b, 0, none⟩ u) b u y := by
  refine ⟨World.cell?_setCell_same _ _ _ h.1, ?_, ?_, ?_⟩
  · rw [World.cell?_setCell_other _ _ _ _ (by simp)]; exact h.2.1
  · rw [World.frozen?_setCell]; exact h.2.2.1
  · rw [World.frozen?_setCell]; exact h.2.2.2
theorem P2.set1 {W : World} {b : Nat} {x y : Value} (h : P2 W b x y) (u : Value) : P2 (W.setCell ⟨b, 1, none⟩ u) b x u := by
  refine ⟨?_, World.cell?_setCell_same _ _ _ h.2.1, ?_, ?_⟩
  · rw [World.cell?_setCell_other _ _ _ _ (by simp)]; exact h.1
  · rw [World.frozen?_setCell]; exact h.2.2.1
  · rw [World.frozen?_setCell]; exact h.2.2.2
theorem P2.setAt {W : World} {b c j : Nat} {x y : Value} (h : P2 W b x y) (hn : c ≠ b) (u : Value) : P2 (W.setCell ⟨c, j, none⟩ u) b x y := h.eq (Below.heap_setCell _ _ _ _ (Ne.symm hn))
/-- a block of one cell -/
def P1 (W : World) (b : Nat) (x : Value) : Prop := W.cell? ⟨b, 0, none⟩ = some x ∧ W.frozen? ⟨b, 0, none⟩ = false
theorem P1.eq {W W' : World} {b : Nat} {x : Value} (h : P1 W b x) (he : W'.heap[b]? = W.heap[b]?) : P1 W' b x :=
  ⟨(World.cell?_of_block (w := W) (a := ⟨b, 0, none⟩) he).trans h.1, (World.frozen?_of_block (w := W) (a := ⟨b, 0, none⟩) he).trans h.2⟩
theorem P1.lt {W : World} {b : Nat} {x : Value} (h : P1 W b x) : b < W.heap.size := World.block_lt_of_cell? _ _ h.1
theorem P1.go {W W' : World} {b : Nat} {x : Value} (h : P1 W b x) (hb : Below W.heap.size W W') : P1 W' b x := h.eq (hb.block b h.lt)
theorem P1.set {W : World} {b : Nat} {x : Value} (h : P1 W b x) (u : Value) : P1 (W.setCell ⟨b, 0, none⟩ u) b u := ⟨World.cell?_setCell_same _ _ _ h.1, by rw [World.frozen?_setCell]; exact h.2⟩
theorem P1.setAt {W : World} {b c j : Nat} {x : Value} (h : P1 W b x) (hn : c ≠ b) (u : Value) : P1 (W.setCell ⟨c, j, none⟩ u) b x := h.eq (Below.heap_setCell _ _ _ _ (Ne.symm hn))

theorem rt_elemi : Elem Tryz.prog 3 (.int .i64 0) 1 8 := ⟨by kernel_rfl, rfl, by decide⟩
theorem rt_onei (n : Int) : ∀ u ∈ [Value.int .i64 n], u.oneCell' = true := by
  intro u hu
  rw [List.mem_singleton] at hu
  subst hu
  rfl

/-- what ParseRoute leaves -/
def PRPost (w : World) (r : RtD × Bool) (e : Ending) (w' : World) : Prop :=
  ∃ ao cap, e = .returned (.tuple #[.agg #[.slice ao r.1.es.length cap, .int .u64 r.1.w], .bool r.2]) ∧ Cel w' ao (r.1.es.map encI) ∧ Below w.heap.size w w' ∧ ∀ x, ao = some x → w.heap.size ≤ x.block

/-- between two rounds; B: the boxes of the iterator -/
def PrI (w : World) (B : Nat) (wv : Int) (pre : List ByteArray) (W : World) : Prop :=
  badP pre = false ∧ (∃ v, P2 W w.heap.size v (.int .u64 wv) ∧ W.ownsRow (B + 5) 3 1 v pre.length ((valP pre).map encI)) ∧ P1 W (w.heap.size + 1) (.bool true) ∧ Below w.heap.size w W ∧ B + 3 ≤ W.heap.size
def PrX (w : World) (c : Code) (pre : List ByteArray) (W : World) : Prop :=
  c = .ret ∧ badP pre = true ∧ P2 W w.heap.size (.slice none 0 0) (.int .u64 0) ∧ P1 W (w.heap.size + 1) (.bool false) ∧ Below w.heap.size w W

theorem badP_snoc (pre : List ByteArray) (x : ByteArray) : badP (pre ++ [x]) = (badP pre || (partI x).2 != 0) := by unfold badP; simp
theorem valP_snoc (pre : List ByteArray) (x : ByteArray) : valP (pre ++ [x]) = valP pre ++ [(partI x).1] := by unfold valP; simp
theorem valP_length (pre : List ByteArray) : (valP pre).length = pre.length := by unfold valP; simp
theorem badP_prefix {pre ps : List ByteArray} (h : pre <+: ps) (hs : badP pre = true) : badP ps = true := by
  obtain ⟨t, rfl⟩ := h
  unfold badP at *
  rw [List.any_append, hs]
  rfl
theorem OffX.p2 {X : Nat → Prop} {W W' : World} {b : Nat} {x y : Value} (h : P2 W b x y) (ho : OffX X W W') (hn : ¬ X b) : P2 W' b x y := h.eq (ho.block b h.lt hn)
theorem OffX.p1 {X : Nat → Prop} {W W' : World} {b : Nat} {x : Value} (h : P1 W b x) (ho : OffX X W W') (hn : ¬ X b) : P1 W' b x := h.eq (ho.block b h.lt hn)
theorem PrI.turn {w : World} {B : Nat} {wv : Int} {pre : List ByteArray} {W W' : World} (hB : w.heap.size + 2 ≤ B) (h : PrI w B wv pre W) (ho : OffX (TurnX B (B + 3)) W W') : PrI w B wv pre W' := by
  obtain ⟨h1, ⟨v, h2, h3⟩, h4, h5, h6⟩ := h
  exact ⟨h1, ⟨v, ho.p2 h2 (fun e => by unfold TurnX at e; omega), OffX.owns h3 ho (fun k e => by unfold TurnX at e; omega)⟩, ho.p1 h4 (fun e => by unfold TurnX at e; omega), h5.trans (ho.below h5.size (fun k e => by unfold TurnX at e; omega)), Nat.le_trans h6 ho.size⟩
theorem PrX.turn {w : World} {B : Nat} {c : Code} {pre : List ByteArray} {W W' : World} (hB : w.heap.size + 2 ≤ B) (h : PrX w c pre W) (ho : OffX (TurnX B (B + 3)) W W') : PrX w c pre W' := by
  obtain ⟨h1, h2, h3, h4, h5⟩ := h
  exact ⟨h1, h2, ho.p2 h3 (fun e => by unfold TurnX at e; omega), ho.p1 h4 (fun e => by unfold TurnX at e; omega), h5.trans (ho.below h5.size (fun k e => by unfold TurnX at e; omega))⟩

/-- the end of a function whose loop over a function has been gone through: the mark is taken off -/
theorem leavesP_end {fn : Func} {tmps : Array Value} {R : Ending → World → Prop} {D : Nat} {W : World} {a : Act} (ha : a = { tmps := tmps, defers := [{ target := .collected D, args := #[] }] }) (hK : W.heap[D]? = some (.deferred (some [])))
    (h : ∀ W', OffX (· = D) W W' → ∃ v, (results fn tmps).run Tryz.prog W' = .ok v W' ∧ R (.returned v) W') : Exit.noGoto (bodyPostM Fence.wide 4 Tryz.prog fn R) Exit.ret a W := by
  subst ha
  refine ⟨by simp, .inl ⟨_, _, rfl, run_takeDeferred hK, ?_⟩⟩
  exact h _ (.put _ rfl)

theorem leavesP_mark {fn : Func} {tmps : Array Value} {R : Ending → World → Prop} {D : Nat} {W : World} {a : Act} (ha : a = { tmps := tmps, defers := [{ target := .collected D, args := #[] }] }) (hK : W.heap[D]? = some (.deferred (some [])))
    (h : ∀ W', OffX (· = D) W W' → ∃ v, (results fn tmps).run Tryz.prog W' = .ok v W' ∧ R (.returned v) W') : bodyPostM Fence.wide 4 Tryz.prog fn R Exit.ret a W := by
  subst ha
  refine ⟨by simp, .inl ⟨_, _, rfl, run_takeDeferred hK, ?_⟩⟩
  exact h _ (.put _ rfl)
theorem leavesP_now {fn : Func} {tmps : Array Value} {R : Ending → World → Prop} {W : World} {a : Act} (ha : a = { tmps := tmps, defers := [] }) (h : ∃ v, (results fn tmps).run Tryz.prog W = .ok v W ∧ R (.returned v) W) : bodyPostM Fence.wide 4 Tryz.prog fn R Exit.ret a W := by
  subst ha
  exact h

/-- the blocks of the iterator and of the loop lie as they lay -/
def KeepB (B : Nat) (W W' : World) : Prop := W.heap.size ≤ W'.heap.size ∧ ∀ k, B ≤ k → k < B + 5 → W'.heap[k]? = W.heap[k]?
theorem KeepB.start (B : Nat) (W : World) : KeepB B W W := ⟨Nat.le_refl _, fun _ _ _ => rfl⟩
theorem KeepB.below {B : Nat} {W A C : World} (h : KeepB B W A) (hb : Below A.heap.size A C) (hz : B + 5 ≤ W.heap.size) : KeepB B W C :=
  ⟨Nat.le_trans h.1 hb.size, fun k h1 h2 => (hb.block k (by have := h.1; omega)).trans (h.2 k h1 h2)⟩
theorem KeepB.set {B : Nat} {W A : World} (h : KeepB B W A) {b j : Nat} (hj : b < B) (u : Value) : KeepB B W (A.setCell ⟨b, j, none⟩ u) :=
  ⟨by have := h.1; simpa [World.setCell] using this, fun k h1 h2 => (Below.heap_setCell _ _ _ _ (by show k ≠ b; omega)).trans (h.2 k h1 h2)⟩
theorem KeepB.grown {B : Nat} {W A C : World} {row : Option Nat} (h : KeepB B W A) (hg : A.grownBy C row) (hr : ∀ k, row = some k → B + 5 ≤ k) (hz : B + 5 ≤ W.heap.size) : KeepB B W C :=
  ⟨Nat.le_trans h.1 hg.size, fun k h1 h2 => (hg.block k (by have := h.1; omega) (fun e => by have := hr k e.symm; omega)).trans (h.2 k h1 h2)⟩
theorem KeepB.x {B D : Nat} {W W' : World} (h : KeepB B W W') (hD : D = B + 3) : KeepX (BodyX B D) W W' :=
  ⟨h.1, fun k hk => h.2 k (by unfold BodyX Bx3 at hk; omega) (by unfold BodyX Bx3 at hk; omega)⟩

set_option maxRecDepth 100000 in
set_option maxHeartbeats 8000000 in
theorem ParseRoute_any (s : ByteArray) (w : World) (hs : s.size ≤ 10000) : Calls Tryz.prog 81 #[.string s] w (PRPost w (parseRt s)) := by
  have HSE := Lib.hid (fun b W => SplitSeqp_any b ⟨#[46]⟩ W)
  have HCU := Lib.hid (fun W => sCutB_any 58 s W (by omega))
  have hge := Lib.indexByte_ge s.data.toList 58
  refine (callsIn_wide (n := 4)).1 (callsIn_of_wp_marks Tryz.func81 rfl trivial (wpIn_wide.2 ?_) rfl)
  simp only [Tryz.ntmps81, List.size_toArray, List.length_cons, List.length_nil, Nat.reduceAdd, Nat.reduceSub, Array.replicate_succ, Array.replicate_zero, List.push_toArray, List.append_toArray, List.nil_append, List.cons_append]
  by_cases hi : Lib.indexByte s.data.toList 58 = -1
  · have HV := Lib.hid (show parseRt s = (rt0, false) by unfold parseRt; rw [if_pos hi])
    have hcu : cutVB 58 s = .tuple #[.string s, .string ByteArray.empty, .bool false] := if_pos hi
    rw [hcu] at HCU
    have HI := Lib.hid (show ∀ W, Calls Tryz.prog 80 #[.string s] W fun e w' => e = .returned (.tuple #[.int .u64 (parseI s).1, .int .i64 (parseI s).2]) ∧ Below W.heap.size W w' from fun W => Parse_any s W (by omega))
    generalize parseRt s = r at *
    clear hcu hi hge
    go_wp2_with fail
    obtain ⟨W0, hW0, hP0, hQ0, hB0, hZ0⟩ : ∃ W0, W0 = (w.alloc (Obj.cells #[.slice none 0 0, .int .u64 0] 48)).alloc (Obj.cells #[.bool false] 4) ∧ P2 W0 w.heap.size (.slice none 0 0) (.int .u64 0) ∧ P1 W0 (w.heap.size + 1) (.bool false) ∧ Below w.heap.size w W0 ∧ W0.heap.size = w.heap.size + 2 :=
      ⟨_, rfl, (P2.new _ _ _ _).go (Below.of_al _ _), ⟨by go_simp, by go_simp⟩, (Below.of_al _ _).al _, by simp⟩
    rw [← hW0]
    clear hW0
    refine (HCU.out _).mono ?_
    rintro e w1 ⟨rfl, hb1⟩
    have HP1 := Lib.hid (hP0.go hb1)
    have HQ1 := Lib.hid (hQ0.go hb1)
    have HB1 := Lib.hid (hB0.st hb1)
    have HZ1 := Lib.hid (show w.heap.size + 2 ≤ w1.heap.size by have := hb1.size; omega)
    obtain ⟨q0, q1⟩ := HQ1.out
    clear hP0 hQ0 hB0 hZ0 hb1 HCU
    go_wp2_with fail
    refine (HI.out _).mono ?_
    rintro e w3 ⟨rfl, hb3⟩
    have HP3 := Lib.hid ((HP1.out.setAt (by simp : w.heap.size + 1 ≠ w.heap.size) (.bool false)).go hb3)
    have HQ3 := Lib.hid ((HQ1.out.set (.bool false)).go hb3)
    have HB3 := Lib.hid ((HB1.out.setCell (p := ⟨w.heap.size + 1, 0, none⟩) (Nat.le_succ _) (.bool false)).st hb3)
    clear hb3 q0 q1 HP1 HQ1 HB1
    obtain ⟨p0, p1, p2, p3⟩ := HP3.out
    obtain ⟨q0, q1⟩ := HQ3.out
    go_wp2
    have r0 := ((HP3.out.set0 (.slice none 0 0)).set1 (.int .u64 0)).setAt (c := w.heap.size + 1) (j := 0) (by simp) (.bool false)
    have s0 := (((HQ3.out.setAt (c := w.heap.size) (j := 0) (by simp) (.slice none 0 0)).setAt (c := w.heap.size) (j := 1) (by simp) (.int .u64 0)).set (.bool false)).1
    refine leavesP_now rfl ⟨.tuple #[.agg #[.slice none 0 0, .int .u64 0], .bool false], ?_, ?_⟩
    · obtain ⟨r0, r1, -, -⟩ := r0
      simp [results, Tryz.results81, go_sem, r0, r1, s0]
      try rfl
    · exact ⟨none, 0, by rw [HV.out]; rfl, by rw [HV.out]; exact Cel.nil _ _, ((HB3.out.setCell (Nat.le_refl _) _).setCell (Nat.le_refl _) _).setCell (Nat.le_succ _) _, fun x hx => by cases hx⟩
  · obtain ⟨i, hi2⟩ : ∃ i : Nat, Lib.indexByte s.data.toList 58 = (i : Int) := ⟨(Lib.indexByte s.data.toList 58).toNat, by omega⟩
    have HR0 := Lib.hid (show parseRt s = cutRt s i by unfold parseRt; rw [if_neg hi, hi2, Int.toNat_natCast])
    have hcu : cutVB 58 s = .tuple #[.string (s.extract 0 i), .string (s.extract (i + 1) s.size), .bool true] := by unfold cutVB; rw [if_neg hi, hi2]; rfl
    rw [hcu] at HCU
    have hza : (s.extract 0 i).size ≤ 10000 := by rw [ByteArray.size_extract]; omega
    have hzb : (s.extract (i + 1) s.size).size ≤ 10000 := by rw [ByteArray.size_extract]; omega
    have HI := Lib.hid (show ∀ W, Calls Tryz.prog 80 #[.string (s.extract 0 i)] W fun e w' => e = .returned (.tuple #[.int .u64 (parseI (s.extract 0 i)).1, .int .i64 (parseI (s.extract 0 i)).2]) ∧ Below W.heap.size W w' from fun W => Parse_any _ W (by omega))
    unfold cutRt at HR0
    clear hcu hi hi2 hge
    generalize s.extract 0 i = sa at *
    generalize s.extract (i + 1) s.size = sb at *
    generalize parseRt s = r at *
    generalize parseI sa = q at *
    obtain ⟨pv, pf⟩ := q
    simp only at HR0 HI
    go_wp2_with fail
    obtain ⟨W0, hW0, hP0, hQ0, hB0, hZ0⟩ : ∃ W0, W0 = (w.alloc (Obj.cells #[.slice none 0 0, .int .u64 0] 48)).alloc (Obj.cells #[.bool false] 4) ∧ P2 W0 w.heap.size (.slice none 0 0) (.int .u64 0) ∧ P1 W0 (w.heap.size + 1) (.bool false) ∧ Below w.heap.size w W0 ∧ W0.heap.size = w.heap.size + 2 :=
      ⟨_, rfl, (P2.new _ _ _ _).go (Below.of_al _ _), ⟨by go_simp, by go_simp⟩, (Below.of_al _ _).al _, by simp⟩
    rw [← hW0]
    clear hW0
    refine (HCU.out _).mono ?_
    rintro e w1 ⟨rfl, hb1⟩
    have HP1 := Lib.hid (hP0.go hb1)
    have HQ1 := Lib.hid (hQ0.go hb1)
    have HB1 := Lib.hid (hB0.st hb1)
    have HZ1 := Lib.hid (show w.heap.size + 2 ≤ w1.heap.size by have := hb1.size; omega)
    obtain ⟨q0, q1⟩ := HQ1.out
    clear hP0 hQ0 hB0 hZ0 hb1 HCU
    go_wp2_with fail
    refine (HI.out _).mono ?_
    rintro e w3 ⟨rfl, hb3⟩
    have HP3 := Lib.hid ((HP1.out.setAt (by simp : w.heap.size + 1 ≠ w.heap.size) (.bool true)).go hb3)
    have HQ3 := Lib.hid ((HQ1.out.set (.bool true)).go hb3)
    have HB3 := Lib.hid ((HB1.out.setCell (p := ⟨w.heap.size + 1, 0, none⟩) (Nat.le_succ _) (.bool true)).st hb3)
    have HZ3 := Lib.hid (show w.heap.size + 2 ≤ w3.heap.size by have := hb3.size; have := HZ1.out; simp [World.setCell] at *; omega)
    clear hb3 q0 q1 HP1 HQ1 HB1
    by_cases hpf : pf = 0
    · subst hpf
      by_cases hb0 : sb.size = 0
      · have HV := Lib.hid (show r = (⟨[], pv⟩, true) by rw [HR0.out, if_neg (by simp), if_pos hb0])
        have hne : (sb.toList == ([] : List UInt8)) = true := by
          rw [ByteArray.toList_eq, beq_iff_eq]
          exact List.eq_nil_of_length_eq_zero (by simpa using hb0)
        clear HR0 hb0
        obtain ⟨p0, p1, p2, p3⟩ := HP3.out
        obtain ⟨q0, q1⟩ := HQ3.out
        go_wp2
        have r0 := (((HP3.out.set1 (.int .u64 pv)).set0 (.slice none 0 0)).set1 (.int .u64 pv)).setAt (c := w.heap.size + 1) (j := 0) (by simp) (.bool true)
        have s0 := ((((HQ3.out.setAt (c := w.heap.size) (j := 1) (by simp) (.int .u64 pv)).setAt (c := w.heap.size) (j := 0) (by simp) (.slice none 0 0)).setAt (c := w.heap.size) (j := 1) (by simp) (.int .u64 pv)).set (.bool true)).1
        refine leavesP_now rfl ⟨.tuple #[.agg #[.slice none 0 0, .int .u64 pv], .bool true], ?_, ?_⟩
        · obtain ⟨r0, r1, -, -⟩ := r0
          simp [results, Tryz.results81, go_sem, r0, r1, s0]
          try rfl
        · exact ⟨none, 0, by rw [HV.out]; rfl, by rw [HV.out]; exact Cel.nil _ _, (((HB3.out.setCell (Nat.le_refl _) _).setCell (Nat.le_refl _) _).setCell (Nat.le_refl _) _).setCell (Nat.le_succ _) _, fun x hx => by cases hx⟩
      · have HV1 := Lib.hid (show badP (partsS 46 sb) = true → r = (rt0, false) by intro h; rw [HR0.out, if_neg (by simp), if_neg hb0, if_pos h])
        have HV2 := Lib.hid (show badP (partsS 46 sb) = false → r = (⟨valP (partsS 46 sb), pv⟩, true) by intro h; rw [HR0.out, if_neg (by simp), if_neg hb0, if_neg (by rw [h]; simp)])
        have hne : (sb.toList == ([] : List UInt8)) = false := by
          rw [ByteArray.toList_eq, beq_eq_false_iff_ne]
          intro e
          exact hb0 (by have := congrArg List.length e; simpa using this)
        clear HR0 hb0
        obtain ⟨p0, p1, p2, p3⟩ := HP3.out
        obtain ⟨q0, q1⟩ := HQ3.out
        go_wp2_with fail
        obtain ⟨W4, hW4, hP4, hQ4, hB4, hZ4⟩ : ∃ W4, W4 = w3.setCell ⟨w.heap.size, 1, none⟩ (.int .u64 pv) ∧ P2 W4 w.heap.size (.slice none 0 0) (.int .u64 pv) ∧ P1 W4 (w.heap.size + 1) (.bool true) ∧ Below w.heap.size w W4 ∧ w.heap.size + 2 ≤ W4.heap.size :=
          ⟨_, rfl, HP3.out.set1 _, HQ3.out.setAt (by simp) _, HB3.out.setCell (Nat.le_refl _) _, by have := HZ3.out; simpa [World.setCell] using this⟩
        rw [← hW4]
        clear hW4 p0 p1 p2 p3 q0 q1 HP3 HQ3 HB3 HZ3
        refine (HSE.out _ _).mono ?_
        rintro e w5 ⟨rfl, rfl⟩
        obtain ⟨B, hB⟩ : ∃ B, B = W4.heap.size := ⟨_, rfl⟩
        rw [← hB]
        obtain ⟨Wl, hWl, hz, hI0, hb0, hb0f, hb1, hb2⟩ : ∃ Wl, Wl = seqWp sb ⟨#[46]⟩ W4 ∧ Wl.heap.size = B + 3 ∧ PrI w B pv [] Wl ∧ Wl.cell? ⟨B, 0, none⟩ = some (.string sb) ∧ Wl.frozen? ⟨B, 0, none⟩ = false ∧ Wl.cell? ⟨B + 1, 0, none⟩ = some (.string ⟨#[46]⟩) ∧ Wl.cell? ⟨B + 2, 0, none⟩ = some (.int .i64 0) := by
          subst hB
          have hbl : Below W4.heap.size W4 (seqWp sb ⟨#[46]⟩ W4) := ((Below.of_al _ _).al _).al _
          exact ⟨_, rfl, by simp, ⟨rfl, ⟨.slice none 0 0, hP4.go hbl, World.ownsRow_nil _ _ _ _⟩, hQ4.go hbl, hB4.st hbl, by simp⟩, by go_simp, by go_simp, by go_simp, by go_simp⟩
        rw [← hWl]
        have hB2 : w.heap.size + 2 ≤ B := by omega
        clear hWl hB hP4 hQ4 hB4 hZ4
        have HI0 := Lib.hid hI0
        have HSEQ := Lib.hid (splitSeq_gives 3 (by decide) 46 sb B Wl (by omega) hb0 hb0f hb1 hb2)
        have hz1 : B + 3 ≤ Wl.heap.size := by omega
        have HZ := Lib.hid hz
        clear hI0 hb0 hb0f hb1 hb2 hz
        go_wp2
        refine (wpIn_wide (n := 4)).1 (wpIn_rangeC rfl (by decide) (gf := 197) rfl trivial (enters_of Tryz.func197 (by kernel_rfl) rfl) HSEQ.out hz1 (fun _ => rfl) (PrI w B pv) (PrX w)
          (fun pre W W' h ho => by rw [HZ.out] at ho; exact h.turn hB2 ho) (fun c pre W W' h ho => by rw [HZ.out] at ho; exact h.turn hB2 ho) HI0.out
          (fun x => { tmps := #[.string s, undef, .pointer (some ⟨w.heap.size, 0, none⟩), .pointer (some ⟨w.heap.size + 1, 0, none⟩), .string sa, .string sb, .int .u64 pv, .int .i64 0, .string x, undef, undef, .tuple #[.string sa, .string sb, .bool true], .string s, .tuple #[.string sa, .string sb, .bool true], .string sa, .string sb, .bool true,
            .tuple #[.int .u64 pv, .int .i64 0], .string sa, .tuple #[.int .u64 pv, .int .i64 0], .int .u64 pv, .int .i64 0, .bool true, .bool false, .bool false, .int .i64 0, .bool false, .bool false, undef, .int .u64 pv, .pointer (some ⟨w.heap.size, 1, none⟩), .string sb, .bool false, undef, .string sb, seqVp B, .string x,
            undef, undef, undef, undef, undef, undef, undef, undef, undef, undef, undef, undef, undef, undef, undef], defers := [] }) ?assign ?body ?done ?stop)
        case assign =>
          intro l x W K hK
          gi_wp2
          exact hK
        case body =>
          rintro l pre x W ⟨h1, ⟨v, h2, h3⟩, h4, h5, h6⟩ hpx hsz
          obtain ⟨ao, cap, rfl, -⟩ := Cel.of_owns h3
          have hx : x.size ≤ 10000 := by
            have := @partsS_size 46 sb x (hpx.subset (by simp))
            omega
          have hpl : pre.length ≤ 10001 := by
            have a2 := hpx.length_le
            have a3 := @partsS_count 46 sb
            simp at a2
            omega
          have hz8 : B + 5 ≤ W.heap.size := by have := HZ.out; omega
          have HO := Lib.hid h3
          have HP := Lib.hid h2
          have HQ := Lib.hid h4
          have HB := Lib.hid h5
          have HI2 := Lib.hid (show ∀ W, Calls Tryz.prog 126 #[.string x, .int .i64 9007199254740992] W fun e w' => e = .returned (.tuple #[.int .i64 (partI x).1, .int .i64 (partI x).2]) ∧ Below W.heap.size W w' from fun W => Int_any x 9007199254740992 W (by omega) (by omega))
          have HBS := Lib.hid (badP_snoc pre x)
          rw [h1] at HBS
          have HVS := Lib.hid (valP_snoc pre x)
          have HVL := Lib.hid (valP_length pre)
          have HK0 := Lib.hid (KeepB.start B W)
          generalize partI x = q at *
          obtain ⟨y, f⟩ := q
          simp only at HI2 HBS HVS
          clear h1 h2 h3 h4 h5 hsz
          gi_wp2_with fail
          refine ⟨trivial, ?_⟩
          refine (CallsIn.inRound l (callsIn_wide.2 (HI2.out _))).mono ?_
          rintro e w1 ⟨rfl, hb1⟩
          have HP1 := Lib.hid (HP.out.go hb1)
          have HQ1 := Lib.hid (HQ.out.go hb1)
          have HO1 := Lib.hid (rt_owns_go HO.out hb1)
          have HK1 := Lib.hid (HK0.out.below hb1 hz8)
          have HB1 := Lib.hid (HB.out.st hb1)
          have hsz1 := hb1.size
          clear hb1 HP HQ HO HK0 HB
          obtain ⟨p0, p1, p2, p3⟩ := HP1.out
          obtain ⟨q0, q1⟩ := HQ1.out
          by_cases hf : f = 0
          · subst hf
            have HBS2 := Lib.hid (show badP (pre ++ [x]) = false by rw [HBS.out]; rfl)
            obtain ⟨i0, hi, hz0, hz1, hz2⟩ := info_parts rt_elemi.1
            gi_wp2_with (gi_at_builtin; refine wpListIn_append_own _ rfl _ _ 45 rfl (B + 5) 3 i0 (.int .i64 0) 1 8 Tryz.underlying45 hi hz0 hz1 hz2 rfl (by decide) _ _ _ rfl (HO1.out.alloc _) ⟨w1.heap.size, 0, none⟩ 1 1 [.int .i64 y] rfl rfl (rt_one _ _ _) (rt_onei _) (by unfold maxLen; omega) (by omega) (by simp; omega) ?_; intro v6 w6 hown hgrow _; obtain ⟨ao6, cap6, rfl, -⟩ := Cel.of_owns hown; (have HO6 := Lib.hid hown; have hrow : ∀ k, (Value.slice ao pre.length cap).ownBlock = some k → B + 5 ≤ k := fun k e => (HO1.out.lt k e).1; have HK6 := Lib.hid ((HK1.out.below (Below.of_al _ _) hz8).grown hgrow hrow hz8); have HP6 := Lib.hid ((HP1.out.go (Below.of_al w1 _)).eq (hgrow.block w.heap.size (by simp; omega) (fun e => by have := hrow _ e.symm; omega))); have HQ6 := Lib.hid ((HQ1.out.go (Below.of_al w1 _)).eq (hgrow.block (w.heap.size + 1) (by simp; omega) (fun e => by have := hrow _ e.symm; omega))); have HB6 := Lib.hid ((HB1.out.al _).grown hgrow (by simp; omega) (fun k e => by have := hrow k e; omega)); have HZ6 := Lib.hid (show w1.heap.size ≤ w6.heap.size by have := hgrow.size; simp at this; omega); clear hown hgrow); obtain ⟨c0, c1, c2, c3⟩ := HP6.out)
            refine ⟨(HK6.out.set (by omega) _).x HZ.out, HBS2.out, ⟨_, HP6.out.set0 _, ?_⟩, HQ6.out.setAt (by simp) _, HB6.out.setCell (Nat.le_refl _) _, by have := HZ6.out; simp [World.setCell]; omega⟩
            have h := ownsRow_setCell_below HO6.out (a := ⟨w.heap.size, 0, none⟩) (show w.heap.size < B + 5 by omega) (.slice ao6 (pre.length + 1) cap6)
            rw [HVS.out, List.length_append, List.map_append]
            exact h
          · have HBS2 := Lib.hid (show badP (pre ++ [x]) = true by rw [HBS.out]; simp [hf])
            have hf2 : (f != 0) = true := by simpa using hf
            clear hf
            gi_wp2
            refine ⟨(((HK1.out.set (by omega) _).set (by omega) _).set (by omega) _).x HZ.out, rfl, HBS2.out, ((HP1.out.set0 _).set1 _).setAt (by simp) _, ((HQ1.out.setAt (by simp) _).setAt (by simp) _).set _, ((HB1.out.setCell (Nat.le_refl _) _).setCell (Nat.le_refl _) _).setCell (Nat.le_succ _) _⟩
        case done =>
          rintro D W hD0 ⟨h1, ⟨v, h2, h3⟩, h4, h5, h6⟩ hK
          obtain ⟨ao, cap, rfl, -⟩ := Cel.of_owns h3
          have hD1 : D = B + 3 := by have := HZ.out; omega
          have HO := Lib.hid h3
          have HP := Lib.hid h2
          have HQ := Lib.hid h4
          have HB := Lib.hid h5
          have HV := Lib.hid (HV2.out h1)
          have HVL := Lib.hid (valP_length (partsS 46 sb))
          have HKD := Lib.hid (show ∀ u1 u2 u3, (((W.setCell ⟨w.heap.size, 0, none⟩ u1).setCell ⟨w.heap.size, 1, none⟩ u2).setCell ⟨w.heap.size + 1, 0, none⟩ u3).heap[D]? = some (.deferred (some [])) by
            intro u1 u2 u3
            rw [Below.heap_setCell _ _ _ _ (by show D ≠ w.heap.size + 1; omega), Below.heap_setCell _ _ _ _ (by show D ≠ w.heap.size; omega), Below.heap_setCell _ _ _ _ (by show D ≠ w.heap.size; omega)]
            exact hK)
          have HOS := Lib.hid (show ∀ u1 u2 u3, (((W.setCell ⟨w.heap.size, 0, none⟩ u1).setCell ⟨w.heap.size, 1, none⟩ u2).setCell ⟨w.heap.size + 1, 0, none⟩ u3).ownsRow (B + 5) 3 1 (.slice ao (partsS 46 sb).length cap) (partsS 46 sb).length ((valP (partsS 46 sb)).map encI) by
            intro u1 u2 u3
            exact ownsRow_setCell_below (ownsRow_setCell_below (ownsRow_setCell_below HO.out (a := ⟨w.heap.size, 0, none⟩) (show w.heap.size < B + 5 by omega) u1) (a := ⟨w.heap.size, 1, none⟩) (show w.heap.size < B + 5 by omega) u2) (a := ⟨w.heap.size + 1, 0, none⟩) (show w.heap.size + 1 < B + 5 by omega) u3)
          have hsz5 := h5.size
          clear h1 h2 h3 h4 h5 hK hD0
          obtain ⟨p0, p1, p2, p3⟩ := HP.out
          obtain ⟨q0, q1⟩ := HQ.out
          go_wp2
          have r0 := ((HP.out.set0 (.slice ao (partsS 46 sb).length cap)).set1 (.int .u64 pv)).setAt (c := w.heap.size + 1) (j := 0) (by simp) (.bool true)
          have s0 := (((HQ.out.setAt (c := w.heap.size) (j := 0) (by simp) (.slice ao (partsS 46 sb).length cap)).setAt (c := w.heap.size) (j := 1) (by simp) (.int .u64 pv)).set (.bool true))
          refine leavesP_mark (a := _) rfl (HKD.out _ _ _) (fun W9 ho => ⟨.tuple #[.agg #[.slice ao (partsS 46 sb).length cap, .int .u64 pv], .bool true], ?_, ?_⟩)
          · obtain ⟨r0, r1, -, -⟩ := ho.p2 r0 (by omega)
            have s1 := (ho.p1 s0 (by omega)).1
            simp [results, Tryz.results81, go_sem, r0, r1, s1]
            try rfl
          · obtain ⟨ao9, cap9, e9, hc9⟩ := Cel.of_owns (OffX.owns (HOS.out (.slice ao (partsS 46 sb).length cap) (.int .u64 pv) (.bool true)) ho (fun k e => by omega))
            cases e9
            exact ⟨ao, cap, by rw [HV.out]; simp only [HVL.out], by rw [HV.out]; exact hc9, (((HB.out.setCell (Nat.le_refl _) _).setCell (Nat.le_refl _) _).setCell (Nat.le_succ _) _).trans (ho.below (by simpa [World.setCell] using hsz5) (fun k e => by omega)), fun x hx => by have := (HO.out.lt x.block (by rw [hx]; rfl)).1; omega⟩
        case stop =>
          rintro D c pre W hD0 hpp ⟨rfl, h2, h3, h4, h5⟩ hK
          have hD1 : D = B + 3 := by have := HZ.out; omega
          have HV := Lib.hid (HV1.out (badP_prefix hpp h2))
          clear hD0
          refine wpIn_ret ?_
          go_wp2
          refine leavesP_mark (a := _) rfl hK (fun W9 ho => ⟨.tuple #[.agg #[.slice none 0 0, .int .u64 0], .bool false], ?_, ?_⟩)
          · obtain ⟨r0, r1, -, -⟩ := ho.p2 h3 (by omega)
            have s1 := (ho.p1 h4 (by omega)).1
            simp [results, Tryz.results81, go_sem, r0, r1, s1]
            try rfl
          · exact ⟨none, 0, by rw [HV.out]; rfl, by rw [HV.out]; exact Cel.nil _ _, h5.trans (ho.below h5.size (fun k e => by omega)), fun x hx => by cases hx⟩
    · have HV := Lib.hid (show r = (rt0, false) by rw [HR0.out, if_pos hpf])
      have hpf2 : (pf != 0) = true := by simpa using hpf
      clear HR0 hpf
      obtain ⟨p0, p1, p2, p3⟩ := HP3.out
      obtain ⟨q0, q1⟩ := HQ3.out
      go_wp2
      have r0 := ((HP3.out.set0 (.slice none 0 0)).set1 (.int .u64 0)).setAt (c := w.heap.size + 1) (j := 0) (by simp) (.bool false)
      have s0 := (((HQ3.out.setAt (c := w.heap.size) (j := 0) (by simp) (.slice none 0 0)).setAt (c := w.heap.size) (j := 1) (by simp) (.int .u64 0)).set (.bool false)).1
      refine leavesP_now rfl ⟨.tuple #[.agg #[.slice none 0 0, .int .u64 0], .bool false], ?_, ?_⟩
      · obtain ⟨r0, r1, -, -⟩ := r0
        simp [results, Tryz.results81, go_sem, r0, r1, s0]
        try rfl
      · exact ⟨none, 0, by rw [HV.out]; rfl, by rw [HV.out]; exact Cel.nil _ _, ((HB3.out.setCell (Nat.le_refl _) _).setCell (Nat.le_refl _) _).setCell (Nat.le_succ _) _, fun x hx => by cases hx⟩

end Go.Proofs.YtelcmkccfjdmjaaGreatDoor
