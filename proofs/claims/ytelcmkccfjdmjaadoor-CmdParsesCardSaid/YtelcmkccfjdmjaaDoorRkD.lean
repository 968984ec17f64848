/-
  Walk of package rank: the rank of a text.
-/
import Derived.Test.YtelcmkccfjdmjaaDoorProg
import Derived.Test.YtelcmkccfjdmjaaDoorRkC
import Derived.Test.YtelcmkccfjdmjaaDoorNumLaw
import Derived.Test.YtelcmkccfjdmjaaDoorGpE
import Derived.RangeFuncNested
import Derived.RangeFuncBound
import Derived.Shelf.RegionOpen
import Derived.OwnWalkIn
import Derived.TacticsInMore
import Derived.LoopNIn
import Derived.LoopIn
import Derived.Maps.AppendAt
namespace Go.Proofs.YtelcmkccfjdmjaaDoor
open Go Go.Proofs Go.RowKit Go.Shelf Go.Sort
attribute [local go_sem] Oper.semAt_some

/-- the boxes of strings.SplitSeq -/
abbrev seqW (s sep : ByteArray) (w : World) : World := ((w.alloc (.cells #[.string s] 9)).alloc (.cells #[.string sep] 9)).alloc (.cells #[.int .i64 0] 3)
abbrev seqV (B : Nat) : Value := .func (.func 103) #[] #[.pointer (some ⟨B + 1, 0, none⟩), .pointer (some ⟨B, 0, none⟩), .pointer (some ⟨B + 2, 0, none⟩)]
theorem splitSeq_any (s sep : ByteArray) (w : World) : Calls Tryd.prog 72 #[.string s, .string sep, .int .i64 0] w fun e w' => e = .returned (seqV w.heap.size) ∧ w' = seqW s sep w := by
  go_enter Tryd.func72, Tryd.ntmps72
  go_wp2
  go_ret
  exact ⟨rfl, rfl⟩
theorem SplitSeq_any (s sep : ByteArray) (w : World) : Calls Tryd.prog 38 #[.string s, .string sep] w fun e w' => e = .returned (seqV w.heap.size) ∧ w' = seqW s sep w := by
  have HS := Lib.hid (splitSeq_any s sep w)
  go_enter Tryd.func38, Tryd.ntmps38
  go_wp2_with (go_at_call 72; refine HS.out.mono ?_; rintro e w1 ⟨rfl, rfl⟩)
  go_ret
  exact ⟨rfl, rfl⟩

def wideP (p : ByteArray) : Bool := (parseI p).2 != 0 || decide (4096 < (parseI p).1)
def outK (ps : List ByteArray) : List Int := (ps.filter fun p => !wideP p).map fun p => (parseI p).1
/-- what Parse leaves -/
def RkPost (w : World) (r : List Int × Int) (e : Ending) (w' : World) : Prop :=
  ∃ ao cap, e = .returned (.tuple #[.slice ao r.1.length cap, .int .i64 r.2]) ∧ Cel w' ao (r.1.map encI) ∧ Below w.heap.size w w'
/-- what Parse leaves, and that it is of its own making -/
def RkPostF (w : World) (r : List Int × Int) (e : Ending) (w' : World) : Prop :=
  ∃ ao cap, e = .returned (.tuple #[.slice ao r.1.length cap, .int .i64 r.2]) ∧ Cel w' ao (r.1.map encI) ∧ Below w.heap.size w w' ∧ ∀ x, ao = some x → w.heap.size ≤ x.block
/-- between two rounds -/
def RkI (w : World) (pre : List ByteArray) (W : World) : Prop :=
  synK pre = false ∧ (∃ v, W.cell? ⟨w.heap.size, 0, none⟩ = some v ∧ W.ownsRow (w.heap.size + 8) 3 1 v (outK pre).length ((outK pre).map encI)) ∧ W.frozen? ⟨w.heap.size, 0, none⟩ = false ∧
    W.cell? ⟨w.heap.size + 1, 0, none⟩ = some (.int .i64 0) ∧ W.frozen? ⟨w.heap.size + 1, 0, none⟩ = false ∧
    W.cell? ⟨w.heap.size + 2, 0, none⟩ = some (.bool (!wideK pre)) ∧ W.frozen? ⟨w.heap.size + 2, 0, none⟩ = false ∧ Below w.heap.size w W ∧ w.heap.size + 6 ≤ W.heap.size
def RkX (w : World) (c : Code) (pre : List ByteArray) (W : World) : Prop :=
  c = .ret ∧ synK pre = true ∧ W.cell? ⟨w.heap.size, 0, none⟩ = some (.slice none 0 0) ∧ W.cell? ⟨w.heap.size + 1, 0, none⟩ = some (.int .i64 3) ∧ Below w.heap.size w W

theorem synK_snoc (pre : List ByteArray) (x : ByteArray) : synK (pre ++ [x]) = (synK pre || ((parseI x).2 == 3)) := by unfold synK; simp
theorem wideK_snoc (pre : List ByteArray) (x : ByteArray) : wideK (pre ++ [x]) = (wideK pre || wideP x) := by unfold wideK wideP; simp
theorem outK_snoc (pre : List ByteArray) (x : ByteArray) : outK (pre ++ [x]) = outK pre ++ (if wideP x then [] else [(parseI x).1]) := by
  unfold outK
  rw [List.filter_append, List.map_append]
  cases h : wideP x <;> simp [h]
theorem outK_all (ps : List ByteArray) (h : wideK ps = false) : outK ps = valsK ps := by
  unfold outK valsK
  have e : ps.filter (fun p => !wideP p) = ps := by
    rw [List.filter_eq_self]
    intro p hp
    unfold wideK at h
    rw [List.any_eq_false] at h
    have := h p hp
    unfold wideP
    simpa using this
  rw [e]
theorem one_int (n : Int) : ∀ u ∈ [Value.int .i64 n], u.oneCell' = true := by
  intro u hu
  rw [List.mem_singleton] at hu
  subst hu
  rfl
theorem outK_length (ps : List ByteArray) : (outK ps).length ≤ ps.length := by
  unfold outK
  rw [List.length_map]
  exact List.length_filter_le _ _
theorem synK_prefix {pre ps : List ByteArray} (h : pre <+: ps) (hs : synK pre = true) : synK ps = true := by
  obtain ⟨t, rfl⟩ := h
  unfold synK at *
  rw [List.any_append, hs]
  rfl
theorem int_cases (x : ByteArray) : ((parseI x).2 = 3 ∧ intI x 4096 = (0, 3)) ∨ ((parseI x).2 ≠ 3 ∧ wideP x = false ∧ intI x 4096 = ((parseI x).1, 0)) ∨ ((parseI x).2 ≠ 3 ∧ wideP x = true ∧ ∃ f, intI x 4096 = (0, f) ∧ f ≠ 0 ∧ f ≠ 3) := by
  rcases parseI_cases x with h | h | ⟨v, h, h0, h1⟩
  · exact .inl ⟨by rw [h], intI_bad h (by decide)⟩
  · exact .inr (.inr ⟨by rw [h]; decide, by unfold wideP; rw [h]; rfl, 6, intI_bad h (by decide), by decide, by decide⟩)
  · by_cases hv : 4096 < v
    · exact .inr (.inr ⟨by rw [h]; simp, by unfold wideP; rw [h]; simp [hv], 2, intI_neg h (.inr hv), by decide, by decide⟩)
    · exact .inr (.inl ⟨by rw [h]; simp, by unfold wideP; rw [h]; simp; omega, by rw [h]; exact intI_ok h (by omega)⟩)

theorem RkI.turn {w : World} {pre : List ByteArray} {W W' : World} (h : RkI w pre W) (ho : OffX (TurnX (w.heap.size + 3) (w.heap.size + 6)) W W') : RkI w pre W' := by
  obtain ⟨h1, ⟨v, h2, h3⟩, h4, h5, h6, h7, h8, h9, h10⟩ := h
  have n0 : ∀ j, j < 3 → ¬ TurnX (w.heap.size + 3) (w.heap.size + 6) (w.heap.size + j) := fun j hj e => by unfold TurnX at e; omega
  refine ⟨h1, ⟨v, ho.cell h2 (n0 0 (by omega)), OffX.owns h3 ho (fun k e => by unfold TurnX at e; omega)⟩, ?_, ho.cell h5 (n0 1 (by omega)), ?_, ho.cell h7 (n0 2 (by omega)), ?_, h9.trans (ho.below h9.size (fun k e => by unfold TurnX at e; omega)), Nat.le_trans h10 ho.size⟩
  · exact (ho.frozen (p := ⟨w.heap.size, 0, none⟩) (show w.heap.size < _ by omega) (n0 0 (by omega))).trans h4
  · exact (ho.frozen (p := ⟨w.heap.size + 1, 0, none⟩) (show w.heap.size + 1 < _ by omega) (n0 1 (by omega))).trans h6
  · exact (ho.frozen (p := ⟨w.heap.size + 2, 0, none⟩) (show w.heap.size + 2 < _ by omega) (n0 2 (by omega))).trans h8
theorem RkX.turn {w : World} {c : Code} {pre : List ByteArray} {W W' : World} (h : RkX w c pre W) (ho : OffX (TurnX (w.heap.size + 3) (w.heap.size + 6)) W W') : RkX w c pre W' := by
  obtain ⟨h1, h2, h3, h4, h5⟩ := h
  refine ⟨h1, h2, ho.cell h3 ?_, ho.cell h4 ?_, h5.trans (ho.below h5.size (fun k e => by unfold TurnX at e; omega))⟩
  · intro e; unfold TurnX at e; simp only at e; omega
  · intro e; unfold TurnX at e; simp only at e; omega

/-- the rest of it -/
def RkR (w : World) (r : Bool) (W : World) : Prop :=
  W.frozen? ⟨w.heap.size, 0, none⟩ = false ∧ W.cell? ⟨w.heap.size + 1, 0, none⟩ = some (.int .i64 0) ∧ W.frozen? ⟨w.heap.size + 1, 0, none⟩ = false ∧
    W.cell? ⟨w.heap.size + 2, 0, none⟩ = some (.bool r) ∧ W.frozen? ⟨w.heap.size + 2, 0, none⟩ = false ∧ Below w.heap.size w W ∧ w.heap.size + 6 ≤ W.heap.size
theorem RkR.grown {w W W' : World} {r : Bool} {row : Option Nat} (h : RkR w r W) (hg : W.grownBy W' row) (hr : ∀ k, row = some k → w.heap.size + 8 ≤ k) : RkR w r W' := by
  obtain ⟨a, b, c, d, e, f, g⟩ := h
  have n : ∀ j, j < 3 → some (w.heap.size + j) ≠ row := fun j hj e => by have := hr _ e.symm; omega
  have fz : ∀ j, j < 3 → W'.frozen? ⟨w.heap.size + j, 0, none⟩ = W.frozen? ⟨w.heap.size + j, 0, none⟩ := fun j hj => World.frozen?_of_block (hg.block (w.heap.size + j) (by omega) (n j hj))
  exact ⟨(fz 0 (by omega)).trans a, hg.cell b (n 1 (by omega)), (fz 1 (by omega)).trans c, hg.cell d (n 2 (by omega)), (fz 2 (by omega)).trans e, f.grown hg (by omega) (fun k e => by have := hr k e; omega), Nat.le_trans g hg.size⟩
theorem RkR.set0 {w W : World} {r : Bool} (h : RkR w r W) (u : Value) : RkR w r (W.setCell ⟨w.heap.size, 0, none⟩ u) := by
  obtain ⟨a, b, c, d, e, f, g⟩ := h
  refine ⟨?_, ?_, ?_, ?_, ?_, f.setCell (Nat.le_refl _) _, by simpa [World.setCell] using g⟩
  · rw [World.frozen?_setCell]; exact a
  · rw [World.cell?_setCell_other _ _ _ _ (by simp)]; exact b
  · rw [World.frozen?_setCell]; exact c
  · rw [World.cell?_setCell_other _ _ _ _ (by simp)]; exact d
  · rw [World.frozen?_setCell]; exact e
theorem RkR.set2 {w W : World} {r : Bool} (h : RkR w r W) (r' : Bool) : RkR w r' (W.setCell ⟨w.heap.size + 2, 0, none⟩ (.bool r')) := by
  obtain ⟨a, b, c, d, e, f, g⟩ := h
  refine ⟨?_, ?_, ?_, World.cell?_setCell_same _ _ _ d, ?_, f.setCell (show w.heap.size ≤ w.heap.size + 2 by omega) _, by simpa [World.setCell] using g⟩
  · rw [World.frozen?_setCell]; exact a
  · rw [World.cell?_setCell_other _ _ _ _ (by simp)]; exact b
  · rw [World.frozen?_setCell]; exact c
  · rw [World.frozen?_setCell]; exact e

/-- the blocks of the iterator and of the loop lie as they lay -/
def Keep8 (w W W' : World) : Prop := W.heap.size ≤ W'.heap.size ∧ ∀ k, w.heap.size + 3 ≤ k → k < w.heap.size + 8 → W'.heap[k]? = W.heap[k]?
theorem Keep8.below {w W A B : World} (h : Keep8 w W A) (hb : Below A.heap.size A B) (hz : w.heap.size + 8 ≤ W.heap.size) : Keep8 w W B :=
  ⟨Nat.le_trans h.1 hb.size, fun k h1 h2 => (hb.block k (by have := h.1; omega)).trans (h.2 k h1 h2)⟩
theorem Keep8.start (w W : World) : Keep8 w W W := ⟨Nat.le_refl _, fun _ _ _ => rfl⟩
theorem Keep8.set {w W A : World} (h : Keep8 w W A) (j : Nat) (hj : j < 3) (u : Value) : Keep8 w W (A.setCell ⟨w.heap.size + j, 0, none⟩ u) :=
  ⟨by have := h.1; simpa [World.setCell] using this, fun k h1 h2 => (Below.heap_setCell _ _ _ _ (by show k ≠ w.heap.size + j; omega)).trans (h.2 k h1 h2)⟩
theorem Keep8.grown {w W A B : World} {row : Option Nat} (h : Keep8 w W A) (hg : A.grownBy B row) (hr : ∀ k, row = some k → w.heap.size + 8 ≤ k) (hz : w.heap.size + 8 ≤ W.heap.size) : Keep8 w W B :=
  ⟨Nat.le_trans h.1 hg.size, fun k h1 h2 => (hg.block k (by have := h.1; omega) (fun e => by have := hr k e.symm; omega)).trans (h.2 k h1 h2)⟩
theorem Keep8.x {w W W' : World} {D : Nat} (h : Keep8 w W W') (hD : D = w.heap.size + 6) : KeepX (BodyX (w.heap.size + 3) D) W W' :=
  ⟨h.1, fun k hk => h.2 k (by unfold BodyX Bx3 at hk; omega) (by unfold BodyX Bx3 at hk; omega)⟩

/-- the end of a function whose loop over a function has been gone through: the mark is taken off -/
theorem leavesM_end {fn : Func} {tmps : Array Value} {R : Ending → World → Prop} {D : Nat} {W : World} {a : Act} (ha : a = { tmps := tmps, defers := [{ target := .collected D, args := #[] }] }) (hK : W.heap[D]? = some (.deferred (some [])))
    (h : ∀ W', OffX (· = D) W W' → ∃ v, (results fn tmps).run Tryd.prog W' = .ok v W' ∧ R (.returned v) W') : Exit.noGoto (bodyPostM Fence.wide 4 Tryd.prog fn R) Exit.ret a W := by
  subst ha
  refine ⟨by simp, .inl ⟨_, _, rfl, run_takeDeferred hK, ?_⟩⟩
  exact h _ (.put _ rfl)

set_option maxHeartbeats 4000000 in
theorem rkParse_some (s : ByteArray) (w : World) (hs : s.size ≤ 2000) (hpos : 0 < s.size) : Calls Tryd.prog 53 #[.string s] w (RkPostF w (rankP s)) := by
  have HSE := Lib.hid (fun W => SplitSeq_any s ⟨#[44]⟩ W)
  have HLN := Lib.hid (show (valsK (partsS 44 s)).length ≤ 1000000 by
    have := @partsS_count 44 s
    unfold valsK
    rw [List.length_map]
    omega)
  have hne : (s.toList == ([] : List UInt8)) = false := by
    rw [ByteArray.toList_eq]
    cases e : s.data.toList with
    | nil => have h9 : s.data.toList.length = 0 := by rw [e]; rfl
             have h8 : s.data.toList.length = s.size := by simp
             omega
    | cons x r => rfl
  refine (callsIn_wide (n := 4)).1 (callsIn_of_wp_marks Tryd.func53 rfl trivial (wpIn_wide.2 ?_) rfl)
  simp only [Tryd.ntmps53, List.size_toArray, List.length_cons, List.length_nil, Nat.reduceAdd, Nat.reduceSub, Array.replicate_succ, Array.replicate_zero, List.push_toArray, List.append_toArray, List.nil_append, List.cons_append]
  repeat go_step
  refine wp_scope_straight ?_
  go_wp2
  go_step3
  repeat go_step
  go_wp2_with (go_at_call 38; refine (HSE.out _).mono ?_; rintro e w1 ⟨rfl, rfl⟩)
  obtain ⟨Wl, hWl, hz, hI0, hb0, hb0f, hb1, hb2⟩ : ∃ Wl, Wl = seqW s ⟨#[44]⟩ (((w.alloc (Obj.cells #[.slice none 0 0] 23)).alloc (Obj.cells #[.int .i64 0] 31)).alloc (Obj.cells #[.bool true] 4)) ∧ Wl.heap.size = w.heap.size + 6 ∧ RkI w [] Wl ∧
      Wl.cell? ⟨w.heap.size + 3, 0, none⟩ = some (.string s) ∧ Wl.frozen? ⟨w.heap.size + 3, 0, none⟩ = false ∧ Wl.cell? ⟨w.heap.size + 3 + 1, 0, none⟩ = some (.string ⟨#[44]⟩) ∧ Wl.cell? ⟨w.heap.size + 3 + 2, 0, none⟩ = some (.int .i64 0) :=
    ⟨_, rfl, by simp, ⟨rfl, ⟨.slice none 0 0, by go_simp, World.ownsRow_nil _ _ _ _⟩, by go_simp, by go_simp, by go_simp, by go_simp; rfl, by go_simp, by repeat (first | exact Below.refl _ _ | refine Below.al ?_ _ | refine Below.dr ?_ _ | refine Below.drew ?_ | assumption | (refine Below.st ?_ (by assumption))), by simp⟩, by go_simp, by go_simp, by go_simp, by go_simp⟩
  rw [← hWl]
  clear hWl
  have HI0 := Lib.hid hI0
  have HSEQ := Lib.hid (splitSeq_gives 3 (by decide) 44 s (w.heap.size + 3) Wl (by omega) hb0 hb0f hb1 hb2)
  have hz1 : w.heap.size + 3 + 3 ≤ Wl.heap.size := by omega
  have HZ := Lib.hid hz
  clear hI0 hb0 hb0f hb1 hb2 HSE hz
  refine (wpIn_wide (n := 4)).1 (wpIn_rangeC rfl (by decide) (gf := 103) rfl trivial (enters_of Tryd.func103 (by kernel_rfl) rfl) HSEQ.out hz1 (fun _ => rfl) (RkI w) (RkX w)
    (fun pre W W' h ho => by rw [HZ.out] at ho; exact h.turn ho) (fun c pre W W' h ho => by rw [HZ.out] at ho; exact h.turn ho) HI0.out
    (fun x => { tmps := #[.string s, undef, .pointer (some ⟨w.heap.size, 0, none⟩), .pointer (some ⟨w.heap.size + 1, 0, none⟩), .pointer (some ⟨w.heap.size + 1 + 1, 0, none⟩), .string x, undef, undef, .string s, .bool false, .string s, seqV (w.heap.size + 1 + 1 + 1), .string x,
      undef, undef, undef, undef, undef, undef, undef, undef, undef, undef, undef, undef, undef, undef, undef, undef, undef, undef, undef, undef, undef, undef], defers := [] }) ?assign ?body ?done ?stop)
  case assign =>
    intro l x W K hK
    gi_wp2
    exact hK
  case body =>
    rintro l pre x W ⟨h1, ⟨v, h2, h3⟩, h4, h5, h6, h7, h8, h9, h10⟩ hpx hsz
    obtain ⟨ao, cap, rfl, -⟩ := Cel.of_owns h3
    have hx : x.size ≤ 2000 := by
      have := @partsS_size 44 s x (hpx.subset (by simp))
      omega
    have hpl : (outK pre).length ≤ 2001 := by
      have a1 := outK_length pre
      have a2 := hpx.length_le
      have a3 := @partsS_count 44 s
      simp at a2
      omega
    have hz8 : w.heap.size + 8 ≤ W.heap.size := by have := HZ.out; omega
    have HO := Lib.hid h3
    have HL := Lib.hid h3.lt
    have HB := Lib.hid h9
    have HI := Lib.hid (fun W => Int_any x 4096 W (by omega) (by omega))
    have HK0 := Lib.hid (Keep8.start w W)
    clear h3 h9 hsz
    rcases int_cases x with ⟨c1, c2⟩ | ⟨c1, c2, c3⟩ | ⟨c1, c2, f, c3, c4, c5⟩
    · have HS := Lib.hid (show synK (pre ++ [x]) = true by rw [synK_snoc, c1]; simp)
      rw [c2] at HI
      clear c1 c2
      gi_wp2_with (refine ⟨trivial, ?_⟩; gi_at_call 39; refine (CallsIn.inRound l (callsIn_wide.2 (HI.out _))).mono ?_; rintro e w1 ⟨rfl, hb1⟩; have q0 := cell_later hb1 h2; have q1 := cell_later hb1 h5; have q4 := (hb1.frozen (p := ⟨w.heap.size, 0, none⟩) (show w.heap.size < _ by omega)).trans h4; have q6 := (hb1.frozen (p := ⟨w.heap.size + 1, 0, none⟩) (show w.heap.size + 1 < _ by omega)).trans h6)
      refine ⟨(((HK0.out.below hb1 hz8).set 0 (by decide) _).set 1 (by decide) _).x HZ.out, rfl, HS.out, ?_, ?_, ((HB.out.st hb1).setCell (Nat.le_refl _) _).setCell (Nat.le_succ _) _⟩
      · rw [World.cell?_setCell_other _ _ _ _ (by simp)]; exact World.cell?_setCell_same _ _ _ q0
      · exact World.cell?_setCell_same _ _ _ (by rw [World.cell?_setCell_other _ _ _ _ (by simp)]; exact q1)
    · have HS := Lib.hid (show synK (pre ++ [x]) = false by rw [synK_snoc, h1]; simpa using c1)
      have HW := Lib.hid (show wideK (pre ++ [x]) = wideK pre by rw [wideK_snoc, c2]; simp)
      have HU := Lib.hid (show outK (pre ++ [x]) = outK pre ++ [(parseI x).1] by rw [outK_snoc, c2]; rfl)
      have HR := Lib.hid (show RkR w (!wideK pre) W from ⟨h4, h5, h6, h7, h8, HB.out, h10⟩)
      rw [c3] at HI
      clear c1 c2 c3 h5 h6 h7 h8 h1
      generalize (parseI x).1 = y at *
      obtain ⟨i0, hi, hz0, hz1, hz2⟩ := info_parts elem_int.1
      gi_wp2_with (first
        | (refine ⟨trivial, ?_⟩; gi_at_call 39; refine (CallsIn.inRound l (callsIn_wide.2 (HI.out _))).mono ?_; rintro e w1 ⟨rfl, hb1⟩; have q0 := cell_later hb1 h2; (have HR1 := Lib.hid (HR.out.grown (row := none) (grown_below none hb1) (fun k e => by cases e)); have HO1 := Lib.hid (owns_goD HO.out hb1); have HK1 := Lib.hid (HK0.out.below hb1 hz8); have hsz1 := hb1.size; clear hb1))
        | (gi_at_builtin; refine wpListIn_append_own _ rfl _ _ 23 rfl (w.heap.size + 8) 3 i0 (.int .i64 0) 1 8 Tryd.underlying23 hi hz0 hz1 hz2 rfl (by decide) _ _ _ rfl (HO1.out.alloc _) ⟨w1.heap.size, 0, none⟩ 1 1 [.int .i64 y] rfl rfl (one_cell _ _ _) (one_int _) (by unfold maxLen; omega) (by omega) (by simp; omega) ?_; intro v6 w6 hown hgrow _; obtain ⟨ao6, cap6, rfl, -⟩ := Cel.of_owns hown; (have HO6 := Lib.hid hown; have hrow : ∀ k, (Value.slice ao (outK pre).length cap).ownBlock = some k → w.heap.size + 8 ≤ k := fun k e => (HO1.out.lt k e).1; have HR6 := Lib.hid ((HR1.out.grown (row := none) (grown_below none (Below.of_al _ _)) (fun k e => by cases e)).grown hgrow hrow); have HK6 := Lib.hid ((HK1.out.below (Below.of_al _ _) hz8).grown hgrow hrow hz8); have q6 := hgrow.cell (cell_later (Below.of_al _ _) q0) (fun e => by have := hrow _ e.symm; simp at this; omega); have q7 := HR6.out.1; clear hown hgrow)))
      refine ⟨(HK6.out.set 0 (by decide) _).x HZ.out, HS.out, ⟨_, World.cell?_setCell_same _ _ _ q6, ?_⟩, ?_⟩
      · have h := ownsRow_setCell_below HO6.out (a := ⟨w.heap.size, 0, none⟩) (by simp) (.slice ao6 ((outK pre).length + 1) cap6)
        rw [HU.out, List.length_append, List.map_append]
        exact h
      · have h := HR6.out.set0 (.slice ao6 ((outK pre).length + 1) cap6)
        rw [HW.out]
        exact h
    · have HS := Lib.hid (show synK (pre ++ [x]) = false by rw [synK_snoc, h1]; simpa using c1)
      have HW := Lib.hid (show wideK (pre ++ [x]) = true by rw [wideK_snoc, c2]; simp)
      have HU := Lib.hid (show outK (pre ++ [x]) = outK pre by rw [outK_snoc, c2]; simp)
      have HR := Lib.hid (show RkR w (!wideK pre) W from ⟨h4, h5, h6, h7, h8, HB.out, h10⟩)
      have hf0 : (f == 0) = false := by simpa using c4
      have hf3 : (f == 3) = false := by simpa using c5
      rw [c3] at HI
      clear c1 c2 c3 h5 h6 h1 c4 c5
      gi_wp2_with fail
      refine ⟨trivial, ?_⟩
      refine (CallsIn.inRound l (callsIn_wide.2 (HI.out _))).mono ?_
      rintro e w1 ⟨rfl, hb1⟩
      have q0 := cell_later hb1 h2
      have HR1 := Lib.hid (HR.out.grown (row := none) (grown_below none hb1) (fun k e => by cases e))
      have HO1 := Lib.hid (owns_goD HO.out hb1)
      have HK1 := Lib.hid (HK0.out.below hb1 hz8)
      have hsz1 := hb1.size
      have q2 := HR1.out.2.2.2.1
      have q8 := HR1.out.2.2.2.2.1
      clear hb1
      gi_wp2
      refine ⟨(HK1.out.set 2 (by decide) _).x HZ.out, HS.out, ⟨_, (World.cell?_setCell_other _ _ _ _ (by simp)).trans q0, ?_⟩, ?_⟩
      · have h := ownsRow_setCell_below HO1.out (a := ⟨w.heap.size + 2, 0, none⟩) (by simp) (.bool false)
        rw [HU.out]
        exact h
      · have h := HR1.out.set2 false
        rw [HW.out]
        exact h
  case done =>
    rintro D W hD0 ⟨h1, ⟨v, h2, h3⟩, h4, h5, h6, h7, h8, h9, h10⟩ hK
    obtain ⟨ao, cap, rfl, hcel⟩ := Cel.of_owns h3
    have hD1 : w.heap.size + 6 ≤ D := by have := HZ.out; omega
    have hD2 : D ≤ w.heap.size + 6 := by have := HZ.out; omega
    clear hD0
    have hn0 := Lib.hid (show D ≠ (⟨w.heap.size, 0, none⟩ : Addr).block by show D ≠ w.heap.size; omega)
    have hn1 := Lib.hid (show D ≠ (⟨w.heap.size + 1, 0, none⟩ : Addr).block by show D ≠ w.heap.size + 1; omega)
    have HO := Lib.hid h3
    have HCL := Lib.hid hcel
    have HB := Lib.hid h9
    have HK := Lib.hid hK
    clear h3 hcel h9 hK
    cases hw : wideK (partsS 44 s) with
    | true =>
      have HR := Lib.hid (show rankP s = ([], 2) by unfold rankP; rw [if_neg (by omega), h1, hw]; simp)
      rw [hw] at h7
      clear h1 hw
      go_wp2
      have k0 : ((W.setCell ⟨w.heap.size, 0, none⟩ (.slice none 0 0)).setCell ⟨w.heap.size + 1, 0, none⟩ (.int .i64 2)).cell? ⟨w.heap.size, 0, none⟩ = some (.slice none 0 0) := by rw [World.cell?_setCell_other _ _ _ _ (by simp)]; exact World.cell?_setCell_same _ _ _ h2
      have k1 : ((W.setCell ⟨w.heap.size, 0, none⟩ (.slice none 0 0)).setCell ⟨w.heap.size + 1, 0, none⟩ (.int .i64 2)).cell? ⟨w.heap.size + 1, 0, none⟩ = some (.int .i64 2) := World.cell?_setCell_same _ _ _ (by rw [World.cell?_setCell_other _ _ _ _ (by simp)]; exact h5)
      refine leavesM_end (a := _) rfl (by rw [Below.heap_setCell _ _ _ _ (hn1.out), Below.heap_setCell _ _ _ _ (hn0.out)]; exact HK.out) (fun W9 ho => ⟨.tuple #[.slice none 0 0, .int .i64 (2)], ?_, ?_⟩)
      · have r0 := ho.cell k0 (show ¬ w.heap.size = D by omega)
        have r1 := ho.cell k1 (show ¬ w.heap.size + 1 = D by omega)
        simp [results, Tryd.results53, go_sem, r0, r1]
        try rfl
      · exact ⟨none, 0, by rw [HR.out]; rfl, by rw [HR.out]; exact Cel.nil _ _, ((HB.out.setCell (Nat.le_refl _) _).setCell (Nat.le_succ _) _).trans (ho.below (by have := HB.out.size; simpa [World.setCell] using this) (fun k e => by omega)), fun _ e => by cases e⟩
    | false =>
      rw [hw] at h7
      rw [outK_all _ hw] at h2 HCL HO
      cases hr : rankB (valsK (partsS 44 s)) with
      | false =>
        have HR := Lib.hid (show rankP s = ([], 2) by unfold rankP; rw [if_neg (by omega), h1, hw, hr]; simp)
        have HRK := Lib.hid (fun W' h => rkRight_any (valsK (partsS 44 s)) ao cap W' HLN.out h)
        rw [hr] at HRK
        clear h1 hw hr
        go_wp2_with (go_at_call 83; refine (HRK.out _ HCL.out).mono ?_; rintro e W2 ⟨rfl, hb2⟩; have q0 := cell_later hb2 h2; have q1 := cell_later hb2 h5; have q4 := (hb2.frozen (p := ⟨w.heap.size, 0, none⟩) (show w.heap.size < _ by omega)).trans h4; have q6 := (hb2.frozen (p := ⟨w.heap.size + 1, 0, none⟩) (show w.heap.size + 1 < _ by omega)).trans h6)
        have k0 : ((W2.setCell ⟨w.heap.size, 0, none⟩ (.slice none 0 0)).setCell ⟨w.heap.size + 1, 0, none⟩ (.int .i64 2)).cell? ⟨w.heap.size, 0, none⟩ = some (.slice none 0 0) := by rw [World.cell?_setCell_other _ _ _ _ (by simp)]; exact World.cell?_setCell_same _ _ _ q0
        have k1 : ((W2.setCell ⟨w.heap.size, 0, none⟩ (.slice none 0 0)).setCell ⟨w.heap.size + 1, 0, none⟩ (.int .i64 2)).cell? ⟨w.heap.size + 1, 0, none⟩ = some (.int .i64 2) := World.cell?_setCell_same _ _ _ (by rw [World.cell?_setCell_other _ _ _ _ (by simp)]; exact q1)
        have HB2 := Lib.hid (HB.out.st hb2)
        have HK2 := Lib.hid (show W2.heap[D]? = some (.deferred (some [])) by rw [hb2.block D (Array.getElem?_eq_some_iff.1 HK.out).1]; exact HK.out)
        refine leavesM_end (a := _) rfl (by rw [Below.heap_setCell _ _ _ _ (hn1.out), Below.heap_setCell _ _ _ _ (hn0.out)]; exact HK2.out) (fun W9 ho => ⟨.tuple #[.slice none 0 0, .int .i64 (2)], ?_, ?_⟩)
        · have r0 := ho.cell k0 (show ¬ w.heap.size = D by omega)
          have r1 := ho.cell k1 (show ¬ w.heap.size + 1 = D by omega)
          simp [results, Tryd.results53, go_sem, r0, r1]
          try rfl
        · exact ⟨none, 0, by rw [HR.out]; rfl, by rw [HR.out]; exact Cel.nil _ _, ((HB2.out.setCell (Nat.le_refl _) _).setCell (Nat.le_succ _) _).trans (ho.below (by have := HB2.out.size; simpa [World.setCell] using this) (fun k e => by omega)), fun _ e => by cases e⟩
      | true =>
        have HR := Lib.hid (show rankP s = (valsK (partsS 44 s), 0) by unfold rankP; rw [if_neg (by omega), h1, hw, hr]; simp)
        have HRK := Lib.hid (fun W' h => rkRight_any (valsK (partsS 44 s)) ao cap W' HLN.out h)
        rw [hr] at HRK
        clear h1 hw hr
        go_wp2_with (go_at_call 83; refine (HRK.out _ HCL.out).mono ?_; rintro e W2 ⟨rfl, hb2⟩; have q0 := cell_later hb2 h2; have q1 := cell_later hb2 h5; have q4 := (hb2.frozen (p := ⟨w.heap.size, 0, none⟩) (show w.heap.size < _ by omega)).trans h4; have q6 := (hb2.frozen (p := ⟨w.heap.size + 1, 0, none⟩) (show w.heap.size + 1 < _ by omega)).trans h6)
        have k0 : ((W2.setCell ⟨w.heap.size, 0, none⟩ (.slice ao (valsK (partsS 44 s)).length cap)).setCell ⟨w.heap.size + 1, 0, none⟩ (.int .i64 0)).cell? ⟨w.heap.size, 0, none⟩ = some (.slice ao (valsK (partsS 44 s)).length cap) := by rw [World.cell?_setCell_other _ _ _ _ (by simp)]; exact World.cell?_setCell_same _ _ _ q0
        have k1 : ((W2.setCell ⟨w.heap.size, 0, none⟩ (.slice ao (valsK (partsS 44 s)).length cap)).setCell ⟨w.heap.size + 1, 0, none⟩ (.int .i64 0)).cell? ⟨w.heap.size + 1, 0, none⟩ = some (.int .i64 0) := World.cell?_setCell_same _ _ _ (by rw [World.cell?_setCell_other _ _ _ _ (by simp)]; exact q1)
        have HB2 := Lib.hid (HB.out.st hb2)
        have HK2 := Lib.hid (show W2.heap[D]? = some (.deferred (some [])) by rw [hb2.block D (Array.getElem?_eq_some_iff.1 HK.out).1]; exact HK.out)
        have HO2 := Lib.hid (ownsRow_setCell_below (ownsRow_setCell_below (owns_goD HO.out hb2) (a := ⟨w.heap.size, 0, none⟩) (by simp) (.slice ao (valsK (partsS 44 s)).length cap)) (a := ⟨w.heap.size + 1, 0, none⟩) (by simp) (.int .i64 0))
        refine leavesM_end (a := _) rfl (by rw [Below.heap_setCell _ _ _ _ (hn1.out), Below.heap_setCell _ _ _ _ (hn0.out)]; exact HK2.out) (fun W9 ho => ⟨.tuple #[.slice ao (valsK (partsS 44 s)).length cap, .int .i64 (0)], ?_, ?_⟩)
        · have r0 := ho.cell k0 (show ¬ w.heap.size = D by omega)
          have r1 := ho.cell k1 (show ¬ w.heap.size + 1 = D by omega)
          simp [results, Tryd.results53, go_sem, r0, r1]
          try rfl
        · obtain ⟨ao9, cap9, e9, hc9⟩ := Cel.of_owns (OffX.owns HO2.out ho (fun k e => by omega))
          cases e9
          exact ⟨_, cap, by rw [HR.out], by rw [HR.out]; exact hc9, ((HB2.out.setCell (Nat.le_refl _) _).setCell (Nat.le_succ _) _).trans (ho.below (by have := HB2.out.size; simpa [World.setCell] using this) (fun k e => by omega)), fun x e => by have := (HO.out.lt x.block (by subst e; rfl)).1; omega⟩
  case stop =>
    rintro D c pre W hD0 hpp ⟨rfl, h2, h3, h4, h5⟩ hK
    have hD1 : w.heap.size + 6 ≤ D := by have := HZ.out; omega
    have hD2 : D ≤ w.heap.size + 6 := by have := HZ.out; omega
    clear hD0
    refine wpIn_ret ?_
    have HR := Lib.hid (show rankP s = ([], 3) by unfold rankP; rw [if_neg (by omega), synK_prefix hpp h2]; rfl)
    go_wp2
    refine leavesM_end (a := _) rfl hK (fun W9 ho => ⟨.tuple #[.slice none 0 0, .int .i64 (3)], ?_, ?_⟩)
    · have r0 := ho.cell h3 (show ¬ w.heap.size = D by omega)
      have r1 := ho.cell h4 (show ¬ w.heap.size + 1 = D by omega)
      simp [results, Tryd.results53, go_sem, r0, r1]
      try rfl
    · exact ⟨none, 0, by rw [HR.out]; rfl, by rw [HR.out]; exact Cel.nil _ _, h5.trans (ho.below h5.size (fun k e => by omega)), fun _ e => by cases e⟩

end Go.Proofs.YtelcmkccfjdmjaaDoor
