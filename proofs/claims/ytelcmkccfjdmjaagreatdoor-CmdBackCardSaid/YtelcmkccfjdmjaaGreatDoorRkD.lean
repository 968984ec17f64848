/-
  Walk of package rank: the rank of a text.
  Walks of package rank: the rank of any text, and by its reference.
-/
import Derived.Test.YtelcmkccfjdmjaaGreatDoorProg
import Derived.Test.YtelcmkccfjdmjaaGreatDoorRkC
import Derived.Test.YtelcmkccfjdmjaaGreatDoorNumLaw
import Derived.Test.YtelcmkccfjdmjaaGreatDoorGpE
import Derived.RangeFuncNested
import Derived.RangeFuncBound
import Derived.Shelf.RegionOpen
import Derived.OwnWalkIn
import Derived.TacticsInMore
import Derived.LoopNIn
import Derived.LoopIn
import Derived.Maps.AppendAt
namespace Go.Proofs.YtelcmkccfjdmjaaGreatDoor
open Go Go.Proofs Go.RowKit Go.Shelf Go.Sort
attribute [local go_sem] Oper.semAt_some

/-- the boxes of strings.SplitSeq -/
abbrev seqW (s sep : ByteArray) (w : World) : World := ((w.alloc (.cells #[.string s] 9)).alloc (.cells #[.string sep] 9)).alloc (.cells #[.int .i64 0] 3)
abbrev seqV (B : Nat) : Value := .func (.func 197) #[] #[.pointer (some ⟨B + 1, 0, none⟩), .pointer (some ⟨B, 0, none⟩), .pointer (some ⟨B + 2, 0, none⟩)]
theorem splitSeq_any (s sep : ByteArray) (w : World) : Calls Tryz.prog 164 #[.string s, .string sep, .int .i64 0] w fun e w' => e = .returned (seqV w.heap.size) ∧ w' = seqW s sep w := by
  go_enter Tryz.func164, Tryz.ntmps164
  go_wp2
  go_ret
  exact ⟨rfl, rfl⟩
theorem SplitSeq_any (s sep : ByteArray) (w : World) : Calls Tryz.prog 125 #[.string s, .string sep] w fun e w' => e = .returned (seqV w.heap.size) ∧ w' = seqW s sep w := by
  have HS := Lib.hid (splitSeq_any s sep w)
  go_enter Tryz.func125, Tryz.ntmps125
  go_wp2_with (go_at_call 164; refine HS.out.mono ?_; rintro e w1 ⟨rfl, rfl⟩)
  go_ret
  exact ⟨rfl, rfl⟩

def wideP (p : ByteArray) : Bool := (parseI p).2 != 0 || decide (4096 < (parseI p).1)
def outK (ps : List ByteArray) : List Int := (ps.filter fun p => !wideP p).map fun p => (parseI p).1
/-- what Parse leaves -/
def RkPost (w : World) (r : List Int × Int) (e : Ending) (w' : World) : Prop :=
  ∃ ao cap, e = .returned (.tuple #[.slice ao r.1.length cap, .int .i64 r.2]) ∧ Cel w' ao (r.1.map encI) ∧ Below w.heap.size w w'
/-- what Parse leaves, and that it is of its own making -/
def RkPostF (w : World) (r : List Int × Int) (e : Ending) (w' : World) : Prop :=
  ∃ ao cap, e = .returned (.tuple #[.slice ao r.1.length cap, .int .i64 r.2]) ∧ Cel w' ao (r.1.map encI) ∧ Below w.heap.size w w' ∧ ∀ x, ao = some x → w.heap.size ≤ x.block
/-- between two rounds -/
def RkI (w : World) (pre : List ByteArray) (W : World) : Prop :=
  synK pre = false ∧ (∃ v, W.cell? ⟨w.heap.size, 0, none⟩ = some v ∧ W.ownsRow (w.heap.size + 8) 3 1 v (outK pre).length ((outK pre).map encI)) ∧ W.frozen? ⟨w.heap.size, 0, none⟩ = false ∧
    W.cell? ⟨w.heap.size + 1, 0, none⟩ = some (.int .i64 0) ∧ W.frozen? ⟨w.heap.size + 1, 0, none⟩ = false ∧
    W.cell? ⟨w.heap.size + 2, 0, none⟩ = some (.bool (!wideK pre)) ∧ W.frozen? ⟨w.heap.size + 2, 0, none⟩ = false ∧ Below w.heap.size w W ∧ w.heap.size + 6 ≤ W.heap.size
def RkX (w : World) (c : Code) (pre : List ByteArray) (W : World) : Prop :=
  c = .ret ∧ synK pre = true ∧ W.cell? ⟨w.heap.size, 0, none⟩ = some (.slice none 0 0) ∧ W.cell? ⟨w.heap.size + 1, 0, none⟩ = some (.int .i64 3) ∧ Below w.heap.size w W

theorem synK_snoc (pre : List ByteArray) (x : ByteArray) : synK (pre ++ [x]) = (synK pre || ((parseI x).2 == 3)) := by unfold synK; simp
theorem wideK_snoc (pre : List ByteArray) (x : ByteArray) : wideK (pre ++ [x]) = (wideK pre || wideP x) := by unfold wideK wideP; simp
theorem outK_snoc (pre : List ByteArray) (x : ByteArray) : outK (pre ++ [x]) = outK pre ++ (if wideP x then [] else [(parseI x).1]) := by
  unfold outK
  rw [List.filter_append, List.map_append]
  cases h : wideP x <;> simp [h]
theorem outK_all (ps : List ByteArray) (h : wideK ps = false) : outK ps = valsK ps := by
  unfold outK valsK
  have e : ps.filter (fun p => !wideP p) = ps := by
    rw [List.filter_eq_self]
    intro p hp
    unfold wideK at h
    rw [List.any_eq_false] at h
    have := h p hp
    unfold wideP
    simpa using this
  rw [e]
theorem one_int (n : Int) : ∀ u ∈ [Value.int .i64 n], u.oneCell' = true := by
  intro u hu
  rw [List.mem_singleton] at hu
  subst hu
  rfl
theorem outK_length (ps : List ByteArray) : (outK ps).length ≤ ps.length := by
  unfold outK
  rw [List.length_map]
  exact List.length_filter_le _ _
theorem synK_prefix {pre ps : List ByteArray} (h : pre <+: ps) (hs : synK pre = true) : synK ps = true := by
  obtain ⟨t, rfl⟩ := h
  unfold synK at *
  rw [List.any_append, hs]
  rfl
theorem int_cases (x : ByteArray) : ((parseI x).2 = 3 ∧ intI x 4096 = (0, 3)) ∨ ((parseI x).2 ≠ 3 ∧ wideP x = false ∧ intI x 4096 = ((parseI x).1, 0)) ∨ ((parseI x).2 ≠ 3 ∧ wideP x = true ∧ ∃ f, intI x 4096 = (0, f) ∧ f ≠ 0 ∧ f ≠ 3) := by
  rcases parseI_cases x with h | h | ⟨v, h, h0, h1⟩
  · exact .inl ⟨by rw [h], intI_bad h (by decide)⟩
  · exact .inr (.inr ⟨by rw [h]; decide, by unfold wideP; rw [h]; rfl, 6, intI_bad h (by decide), by decide, by decide⟩)
  · by_cases hv : 4096 < v
    · exact .inr (.inr ⟨by rw [h]; simp, by unfold wideP; rw [h]; simp [hv], 2, intI_neg h (.inr hv), by decide, by decide⟩)
    · exact .inr (.inl ⟨by rw [h]; simp, by unfold wideP; rw [h]; simp; omega, by rw [h]; exact intI_ok h (by omega)⟩)

theorem RkI.turn {w : World} {pre : List ByteArray} {W W' : World} (h : RkI w pre W) (ho : OffX (TurnX (w.heap.size + 3) (w.heap.size + 6)) W W') : RkI w pre W' := by
  obtain ⟨h1, ⟨v, h2, h3⟩, h4, h5, h6, h7, h8, h9, h10⟩ := h
  have n0 : ∀ j, j < 3 → ¬ TurnX (w.heap.size + 3) (w.heap.size + 6) (w.heap.size + j) := fun j hj e => by unfold TurnX at e; omega
  refine ⟨h1, ⟨v, ho.cell h2 (n0 0 (by omega)), OffX.owns h3 ho (fun k e => by unfold TurnX at e; omega)⟩, ?_, ho.cell h5 (n0 1 (by omega)), ?_, ho.cell h7 (n0 2 (by omega)), ?_, h9.trans (ho.below h9.size (fun k e => by unfold TurnX at e; omega)), Nat.le_trans h10 ho.size⟩
  · exact (ho.frozen (p := ⟨w.heap.size, 0, none⟩) (show w.heap.size < _ by omega) (n0 0 (by omega))).trans h4
  · exact (ho.frozen (p := ⟨w.heap.size + 1, 0, none⟩) (show w.heap.size + 1 < _ by omega) (n0 1 (by omega))).trans h6
  · exact (ho.frozen (p := ⟨w.heap.size + 2, 0, none⟩) (show w.heap.size + 2 < _ by omega) (n0 2 (by omega))).trans h8
theorem RkX.turn {w : World} {c : Code} {pre : List ByteArray} {W W' : World} (h : RkX w c pre W) (ho : OffX (TurnX (w.heap.size + 3) (w.heap.size + 6)) W W') : RkX w c pre W' := by
  obtain ⟨h1, h2, h3, h4, h5⟩ := h
  refine ⟨h1, h2, ho.cell h3 ?_, ho.cell h4 ?_, h5.trans (ho.below h5.size (fun k e => by unfold TurnX at e; omega))⟩
  · intro e; unfold TurnX at e; simp only at e; omega
  · intro e; unfold TurnX at e; simp only at e; omega

/-- the rest of it -/
def RkR (w : World) (r : Bool) (W : World) : Prop :=
  W.frozen? ⟨w.heap.size, 0, none⟩ = false ∧ W.cell? ⟨w.heap.size + 1, 0, none⟩ = some (.int .i64 0) ∧ W.frozen? ⟨w.heap.size + 1, 0, none⟩ = false ∧
    W.cell? ⟨w.heap.size + 2, 0, none⟩ = some (.bool r) ∧ W.frozen? ⟨w.heap.size + 2, 0, none⟩ = false ∧ Below w.heap.size w W ∧ w.heap.size + 6 ≤ W.heap.size
theorem RkR.grown {w W W' : World} {r : Bool} {row : Option Nat} (h : RkR w r W) (hg : W.grownBy W' row) (hr : ∀ k, row = some k → w.heap.size + 8 ≤ k) : RkR w r W' := by
  obtain ⟨a, b, c, d, e, f, g⟩ := h
  have n : ∀ j, j < 3 → some (w.heap.size + j) ≠ row := fun j hj e => by have := hr _ e.symm; omega
  have fz : ∀ j, j < 3 → W'.frozen? ⟨w.heap.size + j, 0, none⟩ = W.frozen? ⟨w.heap.size + j, 0, none⟩ := fun j hj => World.frozen?_of_block (hg.block (w.heap.size + j) (by omega) (n j hj))
  exact ⟨(fz 0 (by omega)).trans a, hg.cell b (n 1 (by omega)), (fz 1 (by omega)).trans c, hg.cell d (n 2 (by omega)), (fz 2 (by omega)).trans e, f.grown hg (by omega) (fun k e => by have := hr k e; omega), Nat.le_trans g hg.size⟩
theorem RkR.set0 {w W : World} {r : Bool} (h : RkR w r W) (u : Value) : RkR w r (W.setCell ⟨w.heap.size, 0, none⟩ u) := by
  obtain ⟨a, b, c, d, e, f, g⟩ := h
  refine ⟨?_, ?_, ?_, ?_, ?_, f.setCell (Nat.le_refl _) _, by simpa [World.setCell] using g⟩
  · rw [World.frozen?_setCell]; exact a
  · rw [World.cell?_setCell_other _ _ _ _ (by simp)]; exact b
  · rw [World.frozen?_setCell]; exact c
  · rw [World.cell?_setCell_other _ _ _ _ (by simp)]; exact d
  · rw [World.frozen?_setCell]; exact e
theorem RkR.set2 {w W : World} {r : Bool} (h : RkR w r W) (r' : Bool) : RkR w r' (W.setCell ⟨w.heap.size + 2, 0, none⟩ (.bool r')) := by
  obtain ⟨a, b, c, d, e, f, g⟩ := h
  refine ⟨?_, ?_, ?_, World.cell?_setCell_same _ _ _ d, ?_, f.setCell (show w.heap.size ≤ w.heap.size + 2 by omega) _, by simpa [World.setCell] using g⟩
  · rw [World.frozen?_setCell]; exact a
  · rw [World.cell?_setCell_other _ _ _ _ (by simp)]; exact b
  · rw [World.frozen?_setCell]; exact c
  · rw [World.frozen?_setCell]; exact e

/-- the blocks of the iterator and of the loop lie as they lay -/
def Keep8 (w W W' : World) : Prop := W.heap.size ≤ W'.heap.size ∧ ∀ k, w.heap.size + 3 ≤ k → k < w.heap.size + 8 → W'.heap[k]? = W.heap[k]?
theorem Keep8.below {w W A B : World} (h : Keep8 w W A) (hb : Below A.heap.size A B) (hz : w.heap.size + 8 ≤ W.heap.size) : Keep8 w W B :=
  ⟨Nat.le_trans h.1 hb.size, fun k h1 h2 => (hb.block k (by have := h.1; omega)).trans (h.2 k h1 h2)⟩
theorem Keep8.start (w W : World) : Keep8 w W W := ⟨Nat.le_refl _, fun _ _ _ => rfl⟩
theorem Keep8.set {w W A : World} (h : Keep8 w W A) (j : Nat) (hj : j < 3) (u : Value) : Keep8 w W (A.setCell ⟨w.heap.size + j, 0, none⟩ u) :=
  ⟨by have := h.1; simpa [World.setCell] using this, fun k h1 h2 => (Below.heap_setCell _ _ _ _ (by show k ≠ w.heap.size + j; omega)).trans (h.2 k h1 h2)⟩
theorem Keep8.grown {w W A B : World} {row : Option Nat} (h : Keep8 w W A) (hg : A.grownBy B row) (hr : ∀ k, row = some k → w.heap.size + 8 ≤ k) (hz : w.heap.size + 8 ≤ W.heap.size) : Keep8 w W B :=
  ⟨Nat.le_trans h.1 hg.size, fun k h1 h2 => (hg.block k (by have := h.1; omega) (fun e => by have := hr k e.symm; omega)).trans (h.2 k h1 h2)⟩
theorem Keep8.x {w W W' : World} {D : Nat} (h : Keep8 w W W') (hD : D = w.heap.size + 6) : KeepX (BodyX (w.heap.size + 3) D) W W' :=
  ⟨h.1, fun k hk => h.2 k (by unfold BodyX Bx3 at hk; omega) (by unfold BodyX Bx3 at hk; omega)⟩

/-- the end of a function whose loop over a function has been gone through: the mark is taken off -/
theorem leavesM_end {fn : Func} {tmps : Array Value} {R : Ending → World → Prop} {D : Nat} {W : World} {a : Act} (ha : a = { tmps := tmps, defers := [{ target := .collected D, args := #[] }] }) (hK : W.heap[D]? = some (.deferred (some [])))
    (h : ∀ W', OffX (· = D) W W' → ∃ v, (results fn tmps).run Tryz.prog W' = .ok v W' ∧ R (.returned v) W') : Exit.noGoto (bodyPostM Fence.wide 4 Tryz.prog fn R) Exit.ret a W := by
  subst ha
  refine ⟨by simp, .inl ⟨_, _, rfl, run_takeDeferred hK, ?_⟩⟩
  exact h _ (.put _ rfl)

set_option maxHeartbeats 4000000 in
theorem rkParse_some (s : ByteArray) (w : World) (hs : s.size ≤ 65536) (hpos : 0 < s.size) : Calls Tryz.prog 115 #[.string s] w (RkPostF w (rankP s)) := by
  have HSE := Lib.hid (fun W => SplitSeq_any s ⟨#[44]⟩ W)
  have HLN := Lib.hid (show (valsK (partsS 44 s)).length ≤ 1000000 by
    have := @partsS_count 44 s
    unfold valsK
    rw [List.length_map]
    omega)
  have hne : (s.toList == ([] : List UInt8)) = false := by
    rw [ByteArray.toList_eq]
    cases e : s.data.toList with
    | nil => have h9 : s.data.toList.length = 0 := by rw [e]; rfl
             have h8 : s.data.toList.length = s.size := by simp
             omega
    | cons x r => rfl
  refine (callsIn_wide (n := 4)).1 (callsIn_of_wp_marks Tryz.func115 rfl trivial (wpIn_wide.2 ?_) rfl)
  simp only [Tryz.ntmps115, List.size_toArray, List.length_cons, List.length_nil, Nat.reduceAdd, Nat.reduceSub, Array.replicate_succ, Array.replicate_zero, List.push_toArray, List.append_toArray, List.nil_append, List.cons_append]
  repeat go_step
  refine wp_scope_straight ?_
  go_wp2
  go_step3
  repeat go_step
  go_wp2_with (go_at_call 125; refine (HSE.out _).mono ?_; rintro e w1 ⟨rfl, rfl⟩)
  obtain ⟨Wl, hWl, hz, hI0, hb0, hb0f, hb1, hb2⟩ : ∃ Wl, Wl = seqW s ⟨#[44]⟩ (((w.alloc (Obj.cells #[.slice none 0 0] 45)).alloc (Obj.cells #[.int .i64 0] 23)).alloc (Obj.cells #[.bool true] 4)) ∧ Wl.heap.size = w.heap.size + 6 ∧ RkI w [] Wl ∧
      Wl.cell? ⟨w.heap.size + 3, 0, none⟩ = some (.string s) ∧ Wl.frozen? ⟨w.heap.size + 3, 0, none⟩ = false ∧ Wl.cell? ⟨w.heap.size + 3 + 1, 0, none⟩ = some (.string ⟨#[44]⟩) ∧ Wl.cell? ⟨w.heap.size + 3 + 2, 0, none⟩ = some (.int .i64 0) :=
    ⟨_, rfl, by simp, ⟨rfl, ⟨.slice none 0 0, by go_simp, World.ownsRow_nil _ _ _ _⟩, by go_simp, by go_simp, by go_simp, by go_simp; rfl, by go_simp, by repeat (first | exact Below.refl _ _ | refine Below.al ?_ _ | refine Below.dr ?_ _ | refine Below.drew ?_ | assumption | (refine Below.st ?_ (by assumption))), by simp⟩, by go_simp, by go_simp, by go_simp, by go_simp⟩
  rw [← hWl]
  clear hWl
  have HI0 := Lib.hid hI0
  have HSEQ := Lib.hid (splitSeq_gives 3 (by decide) 44 s (w.heap.size + 3) Wl (by omega) hb0 hb0f hb1 hb2)
  have hz1 : w.heap.size + 3 + 3 ≤ Wl.heap.size := by omega
  have HZ := Lib.hid hz
  clear hI0 hb0 hb0f hb1 hb2 HSE hz
  refine (wpIn_wide (n := 4)).1 (wpIn_rangeC rfl (by decide) (gf := 197) rfl trivial (enters_of Tryz.func197 (by kernel_rfl) rfl) HSEQ.out hz1 (fun _ => rfl) (RkI w) (RkX w)
    (fun pre W W' h ho => by rw [HZ.out] at ho; exact h.turn ho) (fun c pre W W' h ho => by rw [HZ.out] at ho; exact h.turn ho) HI0.out
    (fun x => { tmps := #[.string s, undef, .pointer (some ⟨w.heap.size, 0, none⟩), .pointer (some ⟨w.heap.size + 1, 0, none⟩), .pointer (some ⟨w.heap.size + 1 + 1, 0, none⟩), .string x, undef, undef, .string s, .bool false, .string s, seqV (w.heap.size + 1 + 1 + 1), .string x,
      undef, undef, undef, undef, undef, undef, undef, undef, undef, undef, undef, undef, undef, undef, undef, undef, undef, undef, undef, undef, undef, undef], defers := [] }) ?assign ?body ?done ?stop)
  case assign =>
    intro l x W K hK
    gi_wp2
    exact hK
  case body =>
    rintro l pre x W ⟨h1, ⟨v, h2, h3⟩, h4, h5, h6, h7, h8, h9, h10⟩ hpx hsz
    obtain ⟨ao, cap, rfl, -⟩ := Cel.of_owns h3
    have hx : x.size ≤ 65536 := by
      have := @partsS_size 44 s x (hpx.subset (by simp))
      omega
    have hpl : (outK pre).length ≤ 65537 := by
      have a1 := outK_length pre
      have a2 := hpx.length_le
      have a3 := @partsS_count 44 s
      simp at a2
      omega
    have hz8 : w.heap.size + 8 ≤ W.heap.size := by have := HZ.out; omega
    have HO := Lib.hid h3
    have HL := Lib.hid h3.lt
    have HB := Lib.hid h9
    have HI := Lib.hid (fun W => Int_any x 4096 W (by omega) (by omega))
    have HK0 := Lib.hid (Keep8.start w W)
    clear h3 h9 hsz
    rcases int_cases x with ⟨c1, c2⟩ | ⟨c1, c2, c3⟩ | ⟨c1, c2, f, c3, c4, c5⟩
    · have HS := Lib.hid (show synK (pre ++ [x]) = true by rw [synK_snoc, c1]; simp)
      rw [c2] at HI
      clear c1 c2
      gi_wp2_with (refine ⟨trivial, ?_⟩; gi_at_call 126; refine (CallsIn.inRound l (callsIn_wide.2 (HI.out _))).mono ?_; rintro e w1 ⟨rfl, hb1⟩; have q0 := cell_later hb1 h2; have q1 := cell_later hb1 h5; have q4 := (hb1.frozen (p := ⟨w.heap.size, 0, none⟩) (show w.heap.size < _ by omega)).trans h4; have q6 := (hb1.frozen (p := ⟨w.heap.size + 1, 0, none⟩) (show w.heap.size + 1 < _ by omega)).trans h6)
      refine ⟨(((HK0.out.below hb1 hz8).set 0 (by decide) _).set 1 (by decide) _).x HZ.out, rfl, HS.out, ?_, ?_, ((HB.out.st hb1).setCell (Nat.le_refl _) _).setCell (Nat.le_succ _) _⟩
      · rw [World.cell?_setCell_other _ _ _ _ (by simp)]; exact World.cell?_setCell_same _ _ _ q0
      · exact World.cell?_setCell_same _ _ _ (by rw [World.cell?_setCell_other _ _ _ _ (by simp)]; exact q1)
    · have HS := Lib.hid (show synK (pre ++ [x]) = false by rw [synK_snoc, h1]; simpa using c1)
      have HW := Lib.hid (show wideK (pre ++ [x]) = wideK pre by rw [wideK_snoc, c2]; simp)
      have HU := Lib.hid (show outK (pre ++ [x]) = outK pre ++ [(parseI x).1] by rw [outK_snoc, c2]; rfl)
      have HR := Lib.hid (show RkR w (!wideK pre) W from ⟨h4, h5, h6, h7, h8, HB.out, h10⟩)
      rw [c3] at HI
      clear c1 c2 c3 h5 h6 h7 h8 h1
      generalize (parseI x).1 = y at *
      obtain ⟨i0, hi, hz0, hz1, hz2⟩ := info_parts elem_int.1
      gi_wp2_with (first
        | (refine ⟨trivial, ?_⟩; gi_at_call 126; refine (CallsIn.inRound l (callsIn_wide.2 (HI.out _))).mono ?_; rintro e w1 ⟨rfl, hb1⟩; have q0 := cell_later hb1 h2; (have HR1 := Lib.hid (HR.out.grown (row := none) (grown_below none hb1) (fun k e => by cases e)); have HO1 := Lib.hid (owns_goD HO.out hb1); have HK1 := Lib.hid (HK0.out.below hb1 hz8); have hsz1 := hb1.size; clear hb1))
        | (gi_at_builtin; refine wpListIn_append_own _ rfl _ _ 45 rfl (w.heap.size + 8) 3 i0 (.int .i64 0) 1 8 Tryz.underlying45 hi hz0 hz1 hz2 rfl (by decide) _ _ _ rfl (HO1.out.alloc _) ⟨w1.heap.size, 0, none⟩ 1 1 [.int .i64 y] rfl rfl (one_cell _ _ _) (one_int _) (by unfold maxLen; omega) (by omega) (by simp; omega) ?_; intro v6 w6 hown hgrow _; obtain ⟨ao6, cap6, rfl, -⟩ := Cel.of_owns hown; (have HO6 := Lib.hid hown; have hrow : ∀ k, (Value.slice ao (outK pre).length cap).ownBlock = some k → w.heap.size + 8 ≤ k := fun k e => (HO1.out.lt k e).1; have HR6 := Lib.hid ((HR1.out.grown (row := none) (grown_below none (Below.of_al _ _)) (fun k e => by cases e)).grown hgrow hrow); have HK6 := Lib.hid ((HK1.out.below (Below.of_al _ _) hz8).grown hgrow hrow hz8); have q6 := hgrow.cell (cell_later (Below.of_al _ _) q0) (fun e => by have := hrow _ e.symm; simp at this; omega); have q7 := HR6.out.1; clear hown hgrow)))
      refine ⟨(HK6.out.set 0 (by decide) _).x HZ.out, HS.out, ⟨_, World.cell?_setCell_same _ _ _ q6, ?_⟩, ?_⟩
      · have h := ownsRow_setCell_below HO6.out (a := ⟨w.heap.size, 0, none⟩) (by simp) (.slice ao6 ((outK pre).length + 1) cap6)
        rw [HU.out, List.length_append, List.map_append]
        exact h
      · have h := HR6.out.set0 (.slice ao6 ((outK pre).length + 1) cap6)
        rw [HW.out]
        exact h
    · have HS := Lib.hid (show synK (pre ++ [x]) = false by rw [synK_snoc, h1]; simpa using c1)
      have HW := Lib.hid (show wideK (pre ++ [x]) = true by rw [wideK_snoc, c2]; simp)
      have HU := Lib.hid (show outK (pre ++ [x]) = outK pre by rw [outK_snoc, c2]; simp)
      have HR := Lib.hid (show RkR w (!wideK pre) W from ⟨h4, h5, h6, h7, h8, HB.out, h10⟩)
      have hf0 : (f == 0) = false := by simpa using c4
      have hf3 : (f == 3) = false := by simpa using c5
      rw [c3] at HI
      clear c1 c2 c3 h5 h6 h1 c4 c5
      gi_wp2_with fail
      refine ⟨trivial, ?_⟩
      refine (CallsIn.inRound l (callsIn_wide.2 (HI.out _))).mono ?_
      rintro e w1 ⟨rfl, hb1⟩
      have q0 := cell_later hb1 h2
      have HR1 := Lib.hid (HR.out.grown (row := none) (grown_below none hb1) (fun k e => by cases e))
      have HO1 := Lib.hid (owns_goD HO.out hb1)
      have HK1 := Lib.hid (HK0.out.below hb1 hz8)
      have hsz1 := hb1.size
      have q2 := HR1.out.2.2.2.1
      have q8 := HR1.out.2.2.2.2.1
      clear hb1
      gi_wp2
      refine ⟨(HK1.out.set 2 (by decide) _).x HZ.out, HS.out, ⟨_, (World.cell?_setCell_other _ _ _ _ (by simp)).trans q0, ?_⟩, ?_⟩
      · have h := ownsRow_setCell_below HO1.out (a := ⟨w.heap.size + 2, 0, none⟩) (by simp) (.bool false)
        rw [HU.out]
        exact h
      · have h := HR1.out.set2 false
        rw [HW.out]
        exact h
  case done =>
    rintro D W hD0 ⟨h1, ⟨v, h2, h3⟩, h4, h5, h6, h7, h8, h9, h10⟩ hK
    obtain ⟨ao, cap, rfl, hcel⟩ := Cel.of_owns h3
    have hD1 : w.heap.size + 6 ≤ D := by have := HZ.out; omega
    have hD2 : D ≤ w.heap.size + 6 := by have := HZ.out; omega
    clear hD0
    have hn0 := Lib.hid (show D ≠ (⟨w.heap.size, 0, none⟩ : Addr).block by show D ≠ w.heap.size; omega)
    have hn1 := Lib.hid (show D ≠ (⟨w.heap.size + 1, 0, none⟩ : Addr).block by show D ≠ w.heap.size + 1; omega)
    have HO := Lib.hid h3
    have HCL := Lib.hid hcel
    have HB := Lib.hid h9
    have HK := Lib.hid hK
    clear h3 hcel h9 hK
    cases hw : wideK (partsS 44 s) with
    | true =>
      have HR := Lib.hid (show rankP s = ([], 2) by unfold rankP; rw [if_neg (by omega), h1, hw]; simp)
      rw [hw] at h7
      clear h1 hw
      go_wp2
      have k0 : ((W.setCell ⟨w.heap.size, 0, none⟩ (.slice none 0 0)).setCell ⟨w.heap.size + 1, 0, none⟩ (.int .i64 2)).cell? ⟨w.heap.size, 0, none⟩ = some (.slice none 0 0) := by rw [World.cell?_setCell_other _ _ _ _ (by simp)]; exact World.cell?_setCell_same _ _ _ h2
      have k1 : ((W.setCell ⟨w.heap.size, 0, none⟩ (.slice none 0 0)).setCell ⟨w.heap.size + 1, 0, none⟩ (.int .i64 2)).cell? ⟨w.heap.size + 1, 0, none⟩ = some (.int .i64 2) := World.cell?_setCell_same _ _ _ (by rw [World.cell?_setCell_other _ _ _ _ (by simp)]; exact h5)
      refine leavesM_end (a := _) rfl (by rw [Below.heap_setCell _ _ _ _ (hn1.out), Below.heap_setCell _ _ _ _ (hn0.out)]; exact HK.out) (fun W9 ho => ⟨.tuple #[.slice none 0 0, .int .i64 (2)], ?_, ?_⟩)
      · have r0 := ho.cell k0 (show ¬ w.heap.size = D by omega)
        have r1 := ho.cell k1 (show ¬ w.heap.size + 1 = D by omega)
        simp [results, Tryz.results115, go_sem, r0, r1]
        try rfl
      · exact ⟨none, 0, by rw [HR.out]; rfl, by rw [HR.out]; exact Cel.nil _ _, ((HB.out.setCell (Nat.le_refl _) _).setCell (Nat.le_succ _) _).trans (ho.below (by have := HB.out.size; simpa [World.setCell] using this) (fun k e => by omega)), fun _ e => by cases e⟩
    | false =>
      rw [hw] at h7
      rw [outK_all _ hw] at h2 HCL HO
      cases hr : rankB (valsK (partsS 44 s)) with
      | false =>
        have HR := Lib.hid (show rankP s = ([], 2) by unfold rankP; rw [if_neg (by omega), h1, hw, hr]; simp)
        have HRK := Lib.hid (fun W' h => rkRight_any (valsK (partsS 44 s)) ao cap W' HLN.out h)
        rw [hr] at HRK
        clear h1 hw hr
        go_wp2_with (go_at_call 142; refine (HRK.out _ HCL.out).mono ?_; rintro e W2 ⟨rfl, hb2⟩; have q0 := cell_later hb2 h2; have q1 := cell_later hb2 h5; have q4 := (hb2.frozen (p := ⟨w.heap.size, 0, none⟩) (show w.heap.size < _ by omega)).trans h4; have q6 := (hb2.frozen (p := ⟨w.heap.size + 1, 0, none⟩) (show w.heap.size + 1 < _ by omega)).trans h6)
        have k0 : ((W2.setCell ⟨w.heap.size, 0, none⟩ (.slice none 0 0)).setCell ⟨w.heap.size + 1, 0, none⟩ (.int .i64 2)).cell? ⟨w.heap.size, 0, none⟩ = some (.slice none 0 0) := by rw [World.cell?_setCell_other _ _ _ _ (by simp)]; exact World.cell?_setCell_same _ _ _ q0
        have k1 : ((W2.setCell ⟨w.heap.size, 0, none⟩ (.slice none 0 0)).setCell ⟨w.heap.size + 1, 0, none⟩ (.int .i64 2)).cell? ⟨w.heap.size + 1, 0, none⟩ = some (.int .i64 2) := World.cell?_setCell_same _ _ _ (by rw [World.cell?_setCell_other _ _ _ _ (by simp)]; exact q1)
        have HB2 := Lib.hid (HB.out.st hb2)
        have HK2 := Lib.hid (show W2.heap[D]? = some (.deferred (some [])) by rw [hb2.block D (Array.getElem?_eq_some_iff.1 HK.out).1]; exact HK.out)
        refine leavesM_end (a := _) rfl (by rw [Below.heap_setCell _ _ _ _ (hn1.out), Below.heap_setCell _ _ _ _ (hn0.out)]; exact HK2.out) (fun W9 ho => ⟨.tuple #[.slice none 0 0, .int .i64 (2)], ?_, ?_⟩)
        · have r0 := ho.cell k0 (show ¬ w.heap.size = D by omega)
          have r1 := ho.cell k1 (show ¬ w.heap.size + 1 = D by omega)
          simp [results, Tryz.results115, go_sem, r0, r1]
          try rfl
        · exact ⟨none, 0, by rw [HR.out]; rfl, by rw [HR.out]; exact Cel.nil _ _, ((HB2.out.setCell (Nat.le_refl _) _).setCell (Nat.le_succ _) _).trans (ho.below (by have := HB2.out.size; simpa [World.setCell] using this) (fun k e => by omega)), fun _ e => by cases e⟩
      | true =>
        have HR := Lib.hid (show rankP s = (valsK (partsS 44 s), 0) by unfold rankP; rw [if_neg (by omega), h1, hw, hr]; simp)
        have HRK := Lib.hid (fun W' h => rkRight_any (valsK (partsS 44 s)) ao cap W' HLN.out h)
        rw [hr] at HRK
        clear h1 hw hr
        go_wp2_with (go_at_call 142; refine (HRK.out _ HCL.out).mono ?_; rintro e W2 ⟨rfl, hb2⟩; have q0 := cell_later hb2 h2; have q1 := cell_later hb2 h5; have q4 := (hb2.frozen (p := ⟨w.heap.size, 0, none⟩) (show w.heap.size < _ by omega)).trans h4; have q6 := (hb2.frozen (p := ⟨w.heap.size + 1, 0, none⟩) (show w.heap.size + 1 < _ by omega)).trans h6)
        have k0 : ((W2.setCell ⟨w.heap.size, 0, none⟩ (.slice ao (valsK (partsS 44 s)).length cap)).setCell ⟨w.heap.size + 1, 0, none⟩ (.int .i64 0)).cell? ⟨w.heap.size, 0, none⟩ = some (.slice ao (valsK (partsS 44 s)).length cap) := by rw [World.cell?_setCell_other _ _ _ _ (by simp)]; exact World.cell?_setCell_same _ _ _ q0
        have k1 : ((W2.setCell ⟨w.heap.size, 0, none⟩ (.slice ao (valsK (partsS 44 s)).length cap)).setCell ⟨w.heap.size + 1, 0, none⟩ (.int .i64 0)).cell? ⟨w.heap.size + 1, 0, none⟩ = some (.int .i64 0) := World.cell?_setCell_same _ _ _ (by rw [World.cell?_setCell_other _ _ _ _ (by simp)]; exact q1)
        have HB2 := Lib.hid (HB.out.st hb2)
        have HK2 := Lib.hid (show W2.heap[D]? = some (.deferred (some [])) by rw [hb2.block D (Array.getElem?_eq_some_iff.1 HK.out).1]; exact HK.out)
        have HO2 := Lib.hid (ownsRow_setCell_below (ownsRow_setCell_below (owns_goD HO.out hb2) (a := ⟨w.heap.size, 0, none⟩) (by simp) (.slice ao (valsK (partsS 44 s)).length cap)) (a := ⟨w.heap.size + 1, 0, none⟩) (by simp) (.int .i64 0))
        refine leavesM_end (a := _) rfl (by rw [Below.heap_setCell _ _ _ _ (hn1.out), Below.heap_setCell _ _ _ _ (hn0.out)]; exact HK2.out) (fun W9 ho => ⟨.tuple #[.slice ao (valsK (partsS 44 s)).length cap, .int .i64 (0)], ?_, ?_⟩)
        · have r0 := ho.cell k0 (show ¬ w.heap.size = D by omega)
          have r1 := ho.cell k1 (show ¬ w.heap.size + 1 = D by omega)
          simp [results, Tryz.results115, go_sem, r0, r1]
          try rfl
        · obtain ⟨ao9, cap9, e9, hc9⟩ := Cel.of_owns (OffX.owns HO2.out ho (fun k e => by omega))
          cases e9
          exact ⟨_, cap, by rw [HR.out], by rw [HR.out]; exact hc9, ((HB2.out.setCell (Nat.le_refl _) _).setCell (Nat.le_succ _) _).trans (ho.below (by have := HB2.out.size; simpa [World.setCell] using this) (fun k e => by omega)), fun x e => by have := (HO.out.lt x.block (by subst e; rfl)).1; omega⟩
  case stop =>
    rintro D c pre W hD0 hpp ⟨rfl, h2, h3, h4, h5⟩ hK
    have hD1 : w.heap.size + 6 ≤ D := by have := HZ.out; omega
    have hD2 : D ≤ w.heap.size + 6 := by have := HZ.out; omega
    clear hD0
    refine wpIn_ret ?_
    have HR := Lib.hid (show rankP s = ([], 3) by unfold rankP; rw [if_neg (by omega), synK_prefix hpp h2]; rfl)
    go_wp2
    refine leavesM_end (a := _) rfl hK (fun W9 ho => ⟨.tuple #[.slice none 0 0, .int .i64 (3)], ?_, ?_⟩)
    · have r0 := ho.cell h3 (show ¬ w.heap.size = D by omega)
      have r1 := ho.cell h4 (show ¬ w.heap.size + 1 = D by omega)
      simp [results, Tryz.results115, go_sem, r0, r1]
      try rfl
    · exact ⟨none, 0, by rw [HR.out]; rfl, by rw [HR.out]; exact Cel.nil _ _, h5.trans (ho.below h5.size (fun k e => by omega)), fun _ e => by cases e⟩

end Go.Proofs.YtelcmkccfjdmjaaGreatDoor

namespace Go.Proofs.YtelcmkccfjdmjaaGreatDoor
open Go Go.Proofs Go.RowKit Go.Shelf Go.Sort

theorem rkParse_own (s : ByteArray) (w : World) (hs : s.size ≤ 65536) : Calls Tryz.prog 115 #[.string s] w (RkPostF w (rankP s)) := by
  rcases Nat.eq_zero_or_pos s.size with h0 | hpos
  · obtain rfl := size_zero h0
    have HR := Lib.hid (show rankP ByteArray.empty = ([], 0) from rfl)
    generalize rankP ByteArray.empty = r at *
    go_enter Tryz.func115, Tryz.ntmps115
    repeat go_step
    refine wp_scope_straight ?_
    go_wp2
    have r0 : ((w.alloc (Obj.cells #[.slice none 0 0] 45)).alloc (Obj.cells #[.int .i64 0] 23)).cell? ⟨w.heap.size, 0, none⟩ = some (.slice none 0 0) := by go_simp
    have r1 : ((w.alloc (Obj.cells #[.slice none 0 0] 45)).alloc (Obj.cells #[.int .i64 0] 23)).cell? ⟨w.heap.size + 1, 0, none⟩ = some (.int .i64 0) := by go_simp
    refine bodyPost_ret (v := .tuple #[.slice none 0 0, .int .i64 0]) (by simp [results, Tryz.results115, go_sem, r0, r1]; try rfl) rfl ?_
    exact ⟨none, 0, by rw [HR.out]; rfl, by rw [HR.out]; exact Cel.nil _ _, by repeat (first | exact Below.refl _ _ | refine Below.al ?_ _ | refine Below.dr ?_ _ | refine Below.drew ?_ | assumption | (refine Below.st ?_ (by assumption))), fun _ e => by cases e⟩
  · exact rkParse_some s w hs hpos

theorem rkParse_any (s : ByteArray) (w : World) (hs : s.size ≤ 65536) : Calls Tryz.prog 115 #[.string s] w (RkPost w (rankP s)) :=
  (rkParse_own s w hs).mono fun _ _ ⟨ao, cap, h1, h2, h3, _⟩ => ⟨ao, cap, h1, h2, h3⟩

/-- as the reference has it -/
def wideR (ps : List ByteArray) : Bool := ps.any fun p => (parseI p).2 != 0 || decide (4611686018427387904 < (parseI p).1)
def valsR (ps : List ByteArray) : List Int := ps.map fun p => IntKind.i64.wrap (parseI p).1
theorem wideR_snoc (pre : List ByteArray) (x : ByteArray) : wideR (pre ++ [x]) = (wideR pre || ((parseI x).2 != 0 || decide (4611686018427387904 < (parseI x).1))) := by unfold wideR; simp
theorem valsR_snoc (pre : List ByteArray) (x : ByteArray) : valsR (pre ++ [x]) = valsR pre ++ [IntKind.i64.wrap (parseI x).1] := by unfold valsR; simp
theorem valsR_length (ps : List ByteArray) : (valsR ps).length = ps.length := by unfold valsR; simp
theorem rankP_ref {s : ByteArray} (h0 : 0 < s.size) (hs : s.size ≤ 4096) (h : synK (partsS 44 s) = false) :
    rankP s = if wideR (partsS 44 s) || !rankB (valsR (partsS 44 s)) then ([], 2) else (valsR (partsS 44 s), 0) := by
  unfold rankP
  rw [if_neg (by omega), h]
  simp only [Bool.false_eq_true, if_false]
  have hcount := @partsS_count 44 s
  generalize partsS 44 s = ps at *
  cases hr : wideR ps with
  | true =>
    have hk : wideK ps = true := by
      unfold wideR at hr
      unfold wideK
      rw [List.any_eq_true] at hr ⊢
      obtain ⟨p, hp, h2⟩ := hr
      refine ⟨p, hp, ?_⟩
      simp only [Bool.or_eq_true, decide_eq_true_eq] at h2 ⊢
      exact h2.imp id (fun h => by omega)
    rw [hk]
    simp
  | false =>
    have hall : ∀ p ∈ ps, (parseI p).2 = 0 ∧ (parseI p).1 ≤ 4611686018427387904 := by
      intro p hp
      unfold wideR at hr
      rw [List.any_eq_false] at hr
      have := hr p hp
      simpa using this
    have hv : valsR ps = valsK ps := by
      unfold valsR valsK
      refine List.map_congr_left fun p hp => ?_
      have h1 := hall p hp
      have h2 := parseI_le p
      exact IntWalk.i64_in _ (by omega)
    rw [hv]
    cases hk : wideK ps with
    | false => rfl
    | true =>
      have hb : rankB (valsK ps) = false := by
        unfold wideK at hk
        rw [List.any_eq_true] at hk
        obtain ⟨p, hp, h2⟩ := hk
        rw [(hall p hp).1] at h2
        have h3 : 4096 < (parseI p).1 := by simpa using h2
        refine rankB_out (x := (parseI p).1) (List.mem_map.2 ⟨p, hp, rfl⟩) (.inr ?_)
        unfold valsK
        rw [List.length_map]
        omega
      rw [hb]
      rfl

theorem indexByte_at {l : List UInt8} {c : UInt8} {k : Nat} (hk : l[k]? = some c) (h : ∀ j, j < k → l[j]? ≠ some c) : Lib.indexByte l c = (k : Int) := by
  have hge := Lib.indexByte_ge l c
  by_cases hn : Lib.indexByte l c = -1
  · exact absurd hk (Lib.indexByte_none hn k)
  · obtain ⟨o, ho⟩ : ∃ o : Nat, Lib.indexByte l c = (o : Int) := ⟨(Lib.indexByte l c).toNat, by omega⟩
    obtain ⟨h1, h2⟩ := Lib.indexByte_some ho
    have : o = k := by
      rcases Nat.lt_trichotomy o k with hh | hh | hh
      · exact absurd h1 (h o hh)
      · exact hh
      · exact absurd hk (h2 k hh)
    rw [ho, this]
theorem indexByte_not {l : List UInt8} {c : UInt8} (h : ∀ j : Nat, l[j]? ≠ some c) : Lib.indexByte l c = -1 := by
  have hge := Lib.indexByte_ge l c
  by_cases hn : Lib.indexByte l c = -1
  · exact hn
  · obtain ⟨o, ho⟩ : ∃ o : Nat, Lib.indexByte l c = (o : Int) := ⟨(Lib.indexByte l c).toNat, by omega⟩
    exact absurd (Lib.indexByte_some ho).1 (h o)
theorem ext_at {s : ByteArray} {f j : Nat} (h : f + j < s.size) : (s.extract f s.size).data.toList[j]? = some s[f + j] := by
  rw [ext_data, List.take_of_length_le (by simp), List.getElem?_drop]
  rw [List.getElem?_eq_getElem (by simpa using h)]
  rfl
theorem ext_none {s : ByteArray} {f j : Nat} (h : ¬ f + j < s.size) : (s.extract f s.size).data.toList[j]? = none := by
  rw [ext_data, List.take_of_length_le (by simp), List.getElem?_drop]
  exact List.getElem?_eq_none (by simp; omega)
/-- no comma from f to i -/
def noC (s : ByteArray) (f i : Nat) : Prop := ∀ j (h : j < s.size), f ≤ j → j < i → s[j] ≠ 44
theorem parts_at {s : ByteArray} {f i : Nat} (hf : f ≤ i) (hi : i < s.size) (hc : s[i] = 44) (hn : noC s f i) :
    partsS 44 (s.extract f s.size) = s.extract f i :: partsS 44 (s.extract (i + 1) s.size) := by
  have e := indexByte_at (l := (s.extract f s.size).data.toList) (c := 44) (k := i - f) (by rw [ext_at (by omega)]; simp only [show f + (i - f) = i by omega, hc]) (fun j hj => by
    rw [ext_at (by omega)]
    intro e
    exact hn (f + j) (by omega) (by omega) (by omega) (by simpa using e))
  have hz : (s.extract f s.size).size = s.size - f := by rw [ByteArray.size_extract]; omega
  rw [partsS_some e (by rw [hz]; omega), hz]
  congr 1
  · apply Go.WideShapes.bytes_inj
    have eT : s.data.toList.take s.size = s.data.toList := List.take_of_length_le (by simp)
    simp only [ext_data, eT, List.drop_zero, List.drop_take, Nat.sub_zero]
  · congr 1
    apply Go.WideShapes.bytes_inj
    have eT : s.data.toList.take s.size = s.data.toList := List.take_of_length_le (by simp)
    have eU : (s.data.toList.drop f).take (s.size - f) = s.data.toList.drop f := List.take_of_length_le (by simp)
    simp only [ext_data, eT, eU, List.drop_drop]
    congr 1
    omega
theorem parts_end {s : ByteArray} {f : Nat} (hn : noC s f s.size) : partsS 44 (s.extract f s.size) = [s.extract f s.size] := by
  refine partsS_none (indexByte_not fun j => ?_)
  by_cases h : f + j < s.size
  · rw [ext_at h]
    intro e
    exact hn (f + j) h (by omega) h (by simpa using e)
  · rw [ext_none h]
    simp
theorem ext_all (s : ByteArray) : s.extract 0 s.size = s := by
  apply Go.WideShapes.bytes_inj
  rw [ext_data, List.take_of_length_le (by simp), List.drop_zero]

/-- how far the reference's Parse is -/
def RkP (s : ByteArray) (i f : Nat) (pre : List ByteArray) : Prop :=
  synK pre = false ∧ ((i ≤ s.size ∧ f ≤ i ∧ partsS 44 s = pre ++ partsS 44 (s.extract f s.size) ∧ noC s f i) ∨ (i = s.size + 1 ∧ f = s.size + 1 ∧ partsS 44 s = pre))
theorem RkP.start (s : ByteArray) : RkP s 0 0 [] := ⟨rfl, .inl ⟨Nat.zero_le _, Nat.le_refl _, by rw [ext_all]; rfl, fun j _ _ h => absurd h (Nat.not_lt_zero _)⟩⟩
theorem RkP.skip {s : ByteArray} {i f : Nat} {pre : List ByteArray} (h : RkP s i f pre) (hi : i < s.size) (hc : s[i] ≠ 44) : RkP s (i + 1) f pre := by
  obtain ⟨h1, ⟨a, b, c, d⟩ | ⟨a, b, c⟩⟩ := h
  · exact ⟨h1, .inl ⟨by omega, by omega, c, fun j hj h3 h4 => by
      by_cases e : j = i
      · subst e; exact hc
      · exact d j hj h3 (by omega)⟩⟩
  · omega
theorem RkP.part {s : ByteArray} {i f : Nat} {pre : List ByteArray} (h : RkP s i f pre) (hi : i ≤ s.size) (hc : ∀ h : i < s.size, s[i] = 44) (hs : (parseI (s.extract f i)).2 ≠ 3) :
    RkP s (i + 1) (i + 1) (pre ++ [s.extract f i]) := by
  obtain ⟨h1, ⟨a, b, c, d⟩ | ⟨a, b, c⟩⟩ := h
  · refine ⟨by rw [synK_snoc, h1]; simpa using hs, ?_⟩
    by_cases hlt : i < s.size
    · refine .inl ⟨hlt, Nat.le_refl _, ?_, fun j _ h3 h4 => by omega⟩
      rw [c, parts_at b hlt (hc hlt) d, List.append_assoc]
      rfl
    · obtain rfl : i = s.size := by omega
      exact .inr ⟨rfl, rfl, by rw [c, parts_end d]⟩
  · omega
theorem RkP.syn {s : ByteArray} {i f : Nat} {pre : List ByteArray} (h : RkP s i f pre) (hi : i ≤ s.size) (hc : ∀ h : i < s.size, s[i] = 44) (hs : (parseI (s.extract f i)).2 = 3) : synK (partsS 44 s) = true := by
  obtain ⟨h1, ⟨a, b, c, d⟩ | ⟨a, b, c⟩⟩ := h
  · have e : synK [s.extract f i] = true := by unfold synK; simp [hs]
    by_cases hlt : i < s.size
    · refine synK_prefix (pre := pre ++ [s.extract f i]) ?_ (by rw [synK_snoc, hs]; simp)
      rw [c, parts_at b hlt (hc hlt) d]
      exact ⟨partsS 44 (s.extract (i + 1) s.size), by simp⟩
    · obtain rfl : i = s.size := by omega
      rw [c, parts_end d, synK_snoc, hs]
      simp
  · omega
theorem RkP.stop {s : ByteArray} {i f : Nat} {pre : List ByteArray} (h : RkP s i f pre) (hi : ¬ i ≤ s.size) : partsS 44 s = pre ∧ synK pre = false := by
  obtain ⟨h1, ⟨a, b, c, d⟩ | ⟨a, b, c⟩⟩ := h
  · omega
  · exact ⟨c, h1⟩
theorem RkP.len {s : ByteArray} {i f : Nat} {pre : List ByteArray} (h : RkP s i f pre) : pre.length ≤ s.size + 1 ∧ (i ≤ s.size → f ≤ i) := by
  have hc := @partsS_count 44 s
  obtain ⟨h1, ⟨a, b, c, d⟩ | ⟨a, b, c⟩⟩ := h
  · rw [c, List.length_append] at hc
    exact ⟨by omega, fun _ => b⟩
  · rw [c] at hc
    exact ⟨by omega, fun h => by omega⟩

theorem wrap_64 (n : Int) : IntKind.i64.wrap n = wrap64 n := by
  rw [IntKind.wrap_i64]
  first
    | rw [wrap64]
    | (unfold wrap64; rfl)
    | (simp only [wrap64])
theorem ba_getc {s : ByteArray} {i : Nat} (h : i < s.size) (hc : s[i] = 44) : ((s[i].toNat : Int) != 44) = false := by rw [hc]; rfl
theorem ba_getn {s : ByteArray} {i : Nat} (h : i < s.size) (hc : s[i] ≠ 44) : ((s[i].toNat : Int) != 44) = true := by
  rw [bne_iff_ne]
  intro e
  apply hc
  apply UInt8.toNat_inj.1
  have : s[i].toNat = 44 := by omega
  rw [this]
  rfl

set_option maxHeartbeats 4000000 in
theorem refRkParse_own (s : ByteArray) (w : World) (hs : s.size ≤ 4096) : Calls Tryz.prog 109 #[.string s] w (RkPostF w (rankP s)) := by
  rcases Nat.eq_zero_or_pos s.size with h0 | hpos
  · obtain rfl := size_zero h0
    have HR := Lib.hid (show rankP ByteArray.empty = ([], 0) from rfl)
    have HX := Lib.hid (fun W => refRkRight_any [] none 0 W (by simp) (Cel.nil _ _))
    rw [show rankB [] = true from rfl] at HX
    generalize rankP ByteArray.empty = r at *
    go_enter Tryz.func109, Tryz.ntmps109
    go_wp2
    refine wp_loop_rounds 1 ?_
    rw [rounds_succ]
    go_wp2_with (go_at_call 146; refine (HX.out _).mono ?_; rintro e w1 ⟨rfl, rfl⟩)
    go_ret2
    exact ⟨none, 0, by rw [HR.out]; rfl, by rw [HR.out]; exact Cel.nil _ _, Below.refl _ _, fun _ e => by cases e⟩
  · have HREF := Lib.hid (@rankP_ref s hpos hs)
    have HSYN := Lib.hid (show synK (partsS 44 s) = true → rankP s = ([], 3) by intro h; unfold rankP; rw [if_neg (by omega), h]; rfl)
    have hpos2 : (0 : Int) < (s.size : Int) := by omega
    generalize rankP s = r at *
    go_enter Tryz.func109, Tryz.ntmps109
    go_wp2
    go_loopg [4, 5, 6, 7] (s.size + 1) (fun gg v4 v5 v6 v7 wr => ∃ (i f : Nat) (pre : List ByteArray), i ≤ s.size + 1 ∧ s.size + 1 - i ≤ gg ∧ v7 = .int .i64 i ∧ v5 = .int .i64 f ∧ v6 = .bool (wideR pre) ∧ Aside (RkP s i f pre) ∧
      Aside (wr.ownsRow w.heap.size 3 1 v4 pre.length ((valsR pre).map encI)) ∧ Aside (Below w.heap.size w wr))
    case atStart => exact ⟨0, 0, [], Nat.zero_le _, by omega, rfl, rfl, rfl, .start s, World.ownsRow_nil _ _ _ _, Below.refl _ _⟩
    case round =>
      obtain ⟨i, f, pre, hi1, hg, rfl, rfl, rfl, HP, HO, HB⟩ := hrel
      obtain ⟨ao, cap, rfl, hcel⟩ := Cel.of_owns HO.out
      obtain ⟨hpl, hfi⟩ := HP.out.len
      by_cases hi : i ≤ s.size
      · have hi2 : (i : Int) ≤ (s.size : Int) := by omega
        have hfi2 := hfi hi
        clear hfi hcel
        by_cases hcont : ∃ h : i < s.size, s[i] ≠ 44
        · obtain ⟨hlt, hne⟩ := hcont
          have hlt2 : (i : Int) < (s.size : Int) := by omega
          have hb := ba_getn hlt hne
          have HP2 := Lib.hid (HP.out.skip hlt hne)
          clear hne
          go_wp2
          go_roundg (s.size + 1 - (i + 1))
          case measure => omega
          case rel => exact ⟨i + 1, f, pre, by omega, by omega, by go_num, rfl, rfl, HP2.out, HO.out, HB.out⟩
        · have hc : ∀ h : i < s.size, s[i] = 44 := fun h => Classical.byContradiction fun e => hcont ⟨h, e⟩
          have hxs : (s.extract f i).size ≤ 4096 := by rw [ByteArray.size_extract]; omega
          have HI := Lib.hid (fun W => refParse_any (s.extract f i) W (by omega))
          have HSY := Lib.hid (fun h => HSYN.out (HP.out.syn hi hc h))
          have HPT := Lib.hid (fun h => HP.out.part hi hc h)
          have HWS := Lib.hid (wideR_snoc pre (s.extract f i))
          have HVS := Lib.hid (valsR_snoc pre (s.extract f i))
          have HLS := Lib.hid (show (pre ++ [s.extract f i]).length = pre.length + 1 by simp)
          clear hcont
          by_cases hlt : i < s.size
          · have hlt2 : (i : Int) < (s.size : Int) := by omega
            have hb := ba_getc hlt (hc hlt)
            clear hc
            rcases parseI_cases (s.extract f i) with h | h | ⟨v, h, v0, v1⟩
            · have HR := Lib.hid (HSY.out (by rw [h]))
              rw [h] at HI
              clear h
              go_wp2_with (go_at_call 84; refine (HI.out _).mono ?_; rintro e w1 ⟨rfl, rfl⟩)
              go_ret2
              exact ⟨none, 0, by rw [HR.out]; rfl, by rw [HR.out]; exact Cel.nil _ _, HB.out, fun _ e => by cases e⟩
            · have HP2 := Lib.hid (HPT.out (by rw [h]; decide))
              have HV2 := Lib.hid (show valsR (pre ++ [s.extract f i]) = valsR pre ++ [0] by rw [HVS.out, h]; rfl)
              rw [h] at HI
              cases hw : wideR pre with
              | true =>
                have HW2 := Lib.hid (show wideR (pre ++ [s.extract f i]) = true by rw [HWS.out, hw]; rfl)
                clear hw
                go_wp2_with (first
  | (go_at_call 84; refine (HI.out _).mono ?_; rintro e w1 ⟨rfl, rfl⟩)
  | (at_builtin; go_must ((with_reducible refine wpList_app w.heap.size 3 _ 1 8 elem_int Tryz.underlying45 (.slice ao pre.length cap) pre.length _ ⟨w1.heap.size, 0, none⟩ 1 1 [.int .i64 (0)] ?_ ?_ (HO.out.alloc _) (one_cell _ _ _) (one_int _) ⟨rfl, by decide, by omega, by omega, by have := HB.out.size; simp; omega⟩ ?_); (· rfl); (· rfl); intro g6 cap6 w6 hown hgrow hbl hat hlt6; (have HO6 := Lib.hid hown; have HB6 := Lib.hid hbl; clear hown hgrow hbl hat))))
                go_roundg (s.size + 1 - (i + 1))
                case measure => omega
                case rel => exact ⟨i + 1, i + 1, pre ++ [s.extract f i], by omega, by omega, by go_num, by go_num, by rw [HW2.out] <;> first | rfl | simp [*], HP2.out, by rw [HV2.out, HLS.out, List.map_append]; exact HO6.out, (HB.out.al _).trans HB6.out⟩
              | false =>
                have HW2 := Lib.hid (HWS.out.trans (by rw [hw, Bool.false_or]))
                rw [h] at HW2
                clear hw h
                go_wp2_with (first
  | (go_at_call 84; refine (HI.out _).mono ?_; rintro e w1 ⟨rfl, rfl⟩)
  | (at_builtin; go_must ((with_reducible refine wpList_app w.heap.size 3 _ 1 8 elem_int Tryz.underlying45 (.slice ao pre.length cap) pre.length _ ⟨w1.heap.size, 0, none⟩ 1 1 [.int .i64 (0)] ?_ ?_ (HO.out.alloc _) (one_cell _ _ _) (one_int _) ⟨rfl, by decide, by omega, by omega, by have := HB.out.size; simp; omega⟩ ?_); (· rfl); (· rfl); intro g6 cap6 w6 hown hgrow hbl hat hlt6; (have HO6 := Lib.hid hown; have HB6 := Lib.hid hbl; clear hown hgrow hbl hat))))
                go_roundg (s.size + 1 - (i + 1))
                case measure => omega
                case rel => exact ⟨i + 1, i + 1, pre ++ [s.extract f i], by omega, by omega, by go_num, by go_num, by rw [HW2.out] <;> first | rfl | simp [*], HP2.out, by rw [HV2.out, HLS.out, List.map_append]; exact HO6.out, (HB.out.al _).trans HB6.out⟩
            · have HP2 := Lib.hid (HPT.out (by rw [h]; simp))
              by_cases hv : 4611686018427387904 < v
              · have HV2 := Lib.hid (show valsR (pre ++ [s.extract f i]) = valsR pre ++ [wrap64 v] by rw [HVS.out, h, wrap_64])
                rw [h] at HI
                cases hw : wideR pre with
                | true =>
                  have HW2 := Lib.hid (show wideR (pre ++ [s.extract f i]) = true by rw [HWS.out, hw]; rfl)
                  clear hw
                  go_wp2_with (first
  | (go_at_call 84; refine (HI.out _).mono ?_; rintro e w1 ⟨rfl, rfl⟩)
  | (at_builtin; go_must ((with_reducible refine wpList_app w.heap.size 3 _ 1 8 elem_int Tryz.underlying45 (.slice ao pre.length cap) pre.length _ ⟨w1.heap.size, 0, none⟩ 1 1 [.int .i64 (wrap64 v)] ?_ ?_ (HO.out.alloc _) (one_cell _ _ _) (one_int _) ⟨rfl, by decide, by omega, by omega, by have := HB.out.size; simp; omega⟩ ?_); (· rfl); (· rfl); intro g6 cap6 w6 hown hgrow hbl hat hlt6; (have HO6 := Lib.hid hown; have HB6 := Lib.hid hbl; clear hown hgrow hbl hat))))
                  go_roundg (s.size + 1 - (i + 1))
                  case measure => omega
                  case rel => exact ⟨i + 1, i + 1, pre ++ [s.extract f i], by omega, by omega, by go_num, by go_num, by rw [HW2.out] <;> first | rfl | simp [*], HP2.out, by rw [HV2.out, HLS.out, List.map_append]; exact HO6.out, (HB.out.al _).trans HB6.out⟩
                | false =>
                  have HW2 := Lib.hid (HWS.out.trans (by rw [hw, Bool.false_or]))
                  rw [h] at HW2
                  clear hw h
                  go_wp2_with (first
  | (go_at_call 84; refine (HI.out _).mono ?_; rintro e w1 ⟨rfl, rfl⟩)
  | (at_builtin; go_must ((with_reducible refine wpList_app w.heap.size 3 _ 1 8 elem_int Tryz.underlying45 (.slice ao pre.length cap) pre.length _ ⟨w1.heap.size, 0, none⟩ 1 1 [.int .i64 (wrap64 v)] ?_ ?_ (HO.out.alloc _) (one_cell _ _ _) (one_int _) ⟨rfl, by decide, by omega, by omega, by have := HB.out.size; simp; omega⟩ ?_); (· rfl); (· rfl); intro g6 cap6 w6 hown hgrow hbl hat hlt6; (have HO6 := Lib.hid hown; have HB6 := Lib.hid hbl; clear hown hgrow hbl hat))))
                  go_roundg (s.size + 1 - (i + 1))
                  case measure => omega
                  case rel => exact ⟨i + 1, i + 1, pre ++ [s.extract f i], by omega, by omega, by go_num, by go_num, by rw [HW2.out] <;> first | rfl | simp [*], HP2.out, by rw [HV2.out, HLS.out, List.map_append]; exact HO6.out, (HB.out.al _).trans HB6.out⟩
              · have HV2 := Lib.hid (show valsR (pre ++ [s.extract f i]) = valsR pre ++ [v] by rw [HVS.out, h, show IntKind.i64.wrap v = v from IntWalk.i64_in _ (by omega)])
                rw [h] at HI
                cases hw : wideR pre with
                | true =>
                  have HW2 := Lib.hid (show wideR (pre ++ [s.extract f i]) = true by rw [HWS.out, hw]; rfl)
                  clear hw
                  go_wp2_with (first
  | (go_at_call 84; refine (HI.out _).mono ?_; rintro e w1 ⟨rfl, rfl⟩)
  | (at_builtin; go_must ((with_reducible refine wpList_app w.heap.size 3 _ 1 8 elem_int Tryz.underlying45 (.slice ao pre.length cap) pre.length _ ⟨w1.heap.size, 0, none⟩ 1 1 [.int .i64 (v)] ?_ ?_ (HO.out.alloc _) (one_cell _ _ _) (one_int _) ⟨rfl, by decide, by omega, by omega, by have := HB.out.size; simp; omega⟩ ?_); (· rfl); (· rfl); intro g6 cap6 w6 hown hgrow hbl hat hlt6; (have HO6 := Lib.hid hown; have HB6 := Lib.hid hbl; clear hown hgrow hbl hat))))
                  go_roundg (s.size + 1 - (i + 1))
                  case measure => omega
                  case rel => exact ⟨i + 1, i + 1, pre ++ [s.extract f i], by omega, by omega, by go_num, by go_num, by rw [HW2.out] <;> first | rfl | simp [*], HP2.out, by rw [HV2.out, HLS.out, List.map_append]; exact HO6.out, (HB.out.al _).trans HB6.out⟩
                | false =>
                  have HW2 := Lib.hid (HWS.out.trans (by rw [hw, Bool.false_or]))
                  rw [h] at HW2
                  clear hw h
                  go_wp2_with (first
  | (go_at_call 84; refine (HI.out _).mono ?_; rintro e w1 ⟨rfl, rfl⟩)
  | (at_builtin; go_must ((with_reducible refine wpList_app w.heap.size 3 _ 1 8 elem_int Tryz.underlying45 (.slice ao pre.length cap) pre.length _ ⟨w1.heap.size, 0, none⟩ 1 1 [.int .i64 (v)] ?_ ?_ (HO.out.alloc _) (one_cell _ _ _) (one_int _) ⟨rfl, by decide, by omega, by omega, by have := HB.out.size; simp; omega⟩ ?_); (· rfl); (· rfl); intro g6 cap6 w6 hown hgrow hbl hat hlt6; (have HO6 := Lib.hid hown; have HB6 := Lib.hid hbl; clear hown hgrow hbl hat))))
                  go_roundg (s.size + 1 - (i + 1))
                  case measure => omega
                  case rel => exact ⟨i + 1, i + 1, pre ++ [s.extract f i], by omega, by omega, by go_num, by go_num, by rw [HW2.out] <;> first | rfl | simp [*], HP2.out, by rw [HV2.out, HLS.out, List.map_append]; exact HO6.out, (HB.out.al _).trans HB6.out⟩
          · have hlt2 : ¬ (i : Int) < (s.size : Int) := by omega
            clear hc
            rcases parseI_cases (s.extract f i) with h | h | ⟨v, h, v0, v1⟩
            · have HR := Lib.hid (HSY.out (by rw [h]))
              rw [h] at HI
              clear h
              go_wp2_with (go_at_call 84; refine (HI.out _).mono ?_; rintro e w1 ⟨rfl, rfl⟩)
              go_ret2
              exact ⟨none, 0, by rw [HR.out]; rfl, by rw [HR.out]; exact Cel.nil _ _, HB.out, fun _ e => by cases e⟩
            · have HP2 := Lib.hid (HPT.out (by rw [h]; decide))
              have HV2 := Lib.hid (show valsR (pre ++ [s.extract f i]) = valsR pre ++ [0] by rw [HVS.out, h]; rfl)
              rw [h] at HI
              cases hw : wideR pre with
              | true =>
                have HW2 := Lib.hid (show wideR (pre ++ [s.extract f i]) = true by rw [HWS.out, hw]; rfl)
                clear hw
                go_wp2_with (first
  | (go_at_call 84; refine (HI.out _).mono ?_; rintro e w1 ⟨rfl, rfl⟩)
  | (at_builtin; go_must ((with_reducible refine wpList_app w.heap.size 3 _ 1 8 elem_int Tryz.underlying45 (.slice ao pre.length cap) pre.length _ ⟨w1.heap.size, 0, none⟩ 1 1 [.int .i64 (0)] ?_ ?_ (HO.out.alloc _) (one_cell _ _ _) (one_int _) ⟨rfl, by decide, by omega, by omega, by have := HB.out.size; simp; omega⟩ ?_); (· rfl); (· rfl); intro g6 cap6 w6 hown hgrow hbl hat hlt6; (have HO6 := Lib.hid hown; have HB6 := Lib.hid hbl; clear hown hgrow hbl hat))))
                go_roundg (s.size + 1 - (i + 1))
                case measure => omega
                case rel => exact ⟨i + 1, i + 1, pre ++ [s.extract f i], by omega, by omega, by go_num, by go_num, by rw [HW2.out] <;> first | rfl | simp [*], HP2.out, by rw [HV2.out, HLS.out, List.map_append]; exact HO6.out, (HB.out.al _).trans HB6.out⟩
              | false =>
                have HW2 := Lib.hid (HWS.out.trans (by rw [hw, Bool.false_or]))
                rw [h] at HW2
                clear hw h
                go_wp2_with (first
  | (go_at_call 84; refine (HI.out _).mono ?_; rintro e w1 ⟨rfl, rfl⟩)
  | (at_builtin; go_must ((with_reducible refine wpList_app w.heap.size 3 _ 1 8 elem_int Tryz.underlying45 (.slice ao pre.length cap) pre.length _ ⟨w1.heap.size, 0, none⟩ 1 1 [.int .i64 (0)] ?_ ?_ (HO.out.alloc _) (one_cell _ _ _) (one_int _) ⟨rfl, by decide, by omega, by omega, by have := HB.out.size; simp; omega⟩ ?_); (· rfl); (· rfl); intro g6 cap6 w6 hown hgrow hbl hat hlt6; (have HO6 := Lib.hid hown; have HB6 := Lib.hid hbl; clear hown hgrow hbl hat))))
                go_roundg (s.size + 1 - (i + 1))
                case measure => omega
                case rel => exact ⟨i + 1, i + 1, pre ++ [s.extract f i], by omega, by omega, by go_num, by go_num, by rw [HW2.out] <;> first | rfl | simp [*], HP2.out, by rw [HV2.out, HLS.out, List.map_append]; exact HO6.out, (HB.out.al _).trans HB6.out⟩
            · have HP2 := Lib.hid (HPT.out (by rw [h]; simp))
              by_cases hv : 4611686018427387904 < v
              · have HV2 := Lib.hid (show valsR (pre ++ [s.extract f i]) = valsR pre ++ [wrap64 v] by rw [HVS.out, h, wrap_64])
                rw [h] at HI
                cases hw : wideR pre with
                | true =>
                  have HW2 := Lib.hid (show wideR (pre ++ [s.extract f i]) = true by rw [HWS.out, hw]; rfl)
                  clear hw
                  go_wp2_with (first
  | (go_at_call 84; refine (HI.out _).mono ?_; rintro e w1 ⟨rfl, rfl⟩)
  | (at_builtin; go_must ((with_reducible refine wpList_app w.heap.size 3 _ 1 8 elem_int Tryz.underlying45 (.slice ao pre.length cap) pre.length _ ⟨w1.heap.size, 0, none⟩ 1 1 [.int .i64 (wrap64 v)] ?_ ?_ (HO.out.alloc _) (one_cell _ _ _) (one_int _) ⟨rfl, by decide, by omega, by omega, by have := HB.out.size; simp; omega⟩ ?_); (· rfl); (· rfl); intro g6 cap6 w6 hown hgrow hbl hat hlt6; (have HO6 := Lib.hid hown; have HB6 := Lib.hid hbl; clear hown hgrow hbl hat))))
                  go_roundg (s.size + 1 - (i + 1))
                  case measure => omega
                  case rel => exact ⟨i + 1, i + 1, pre ++ [s.extract f i], by omega, by omega, by go_num, by go_num, by rw [HW2.out] <;> first | rfl | simp [*], HP2.out, by rw [HV2.out, HLS.out, List.map_append]; exact HO6.out, (HB.out.al _).trans HB6.out⟩
                | false =>
                  have HW2 := Lib.hid (HWS.out.trans (by rw [hw, Bool.false_or]))
                  rw [h] at HW2
                  clear hw h
                  go_wp2_with (first
  | (go_at_call 84; refine (HI.out _).mono ?_; rintro e w1 ⟨rfl, rfl⟩)
  | (at_builtin; go_must ((with_reducible refine wpList_app w.heap.size 3 _ 1 8 elem_int Tryz.underlying45 (.slice ao pre.length cap) pre.length _ ⟨w1.heap.size, 0, none⟩ 1 1 [.int .i64 (wrap64 v)] ?_ ?_ (HO.out.alloc _) (one_cell _ _ _) (one_int _) ⟨rfl, by decide, by omega, by omega, by have := HB.out.size; simp; omega⟩ ?_); (· rfl); (· rfl); intro g6 cap6 w6 hown hgrow hbl hat hlt6; (have HO6 := Lib.hid hown; have HB6 := Lib.hid hbl; clear hown hgrow hbl hat))))
                  go_roundg (s.size + 1 - (i + 1))
                  case measure => omega
                  case rel => exact ⟨i + 1, i + 1, pre ++ [s.extract f i], by omega, by omega, by go_num, by go_num, by rw [HW2.out] <;> first | rfl | simp [*], HP2.out, by rw [HV2.out, HLS.out, List.map_append]; exact HO6.out, (HB.out.al _).trans HB6.out⟩
              · have HV2 := Lib.hid (show valsR (pre ++ [s.extract f i]) = valsR pre ++ [v] by rw [HVS.out, h, show IntKind.i64.wrap v = v from IntWalk.i64_in _ (by omega)])
                rw [h] at HI
                cases hw : wideR pre with
                | true =>
                  have HW2 := Lib.hid (show wideR (pre ++ [s.extract f i]) = true by rw [HWS.out, hw]; rfl)
                  clear hw
                  go_wp2_with (first
  | (go_at_call 84; refine (HI.out _).mono ?_; rintro e w1 ⟨rfl, rfl⟩)
  | (at_builtin; go_must ((with_reducible refine wpList_app w.heap.size 3 _ 1 8 elem_int Tryz.underlying45 (.slice ao pre.length cap) pre.length _ ⟨w1.heap.size, 0, none⟩ 1 1 [.int .i64 (v)] ?_ ?_ (HO.out.alloc _) (one_cell _ _ _) (one_int _) ⟨rfl, by decide, by omega, by omega, by have := HB.out.size; simp; omega⟩ ?_); (· rfl); (· rfl); intro g6 cap6 w6 hown hgrow hbl hat hlt6; (have HO6 := Lib.hid hown; have HB6 := Lib.hid hbl; clear hown hgrow hbl hat))))
                  go_roundg (s.size + 1 - (i + 1))
                  case measure => omega
                  case rel => exact ⟨i + 1, i + 1, pre ++ [s.extract f i], by omega, by omega, by go_num, by go_num, by rw [HW2.out] <;> first | rfl | simp [*], HP2.out, by rw [HV2.out, HLS.out, List.map_append]; exact HO6.out, (HB.out.al _).trans HB6.out⟩
                | false =>
                  have HW2 := Lib.hid (HWS.out.trans (by rw [hw, Bool.false_or]))
                  rw [h] at HW2
                  clear hw h
                  go_wp2_with (first
  | (go_at_call 84; refine (HI.out _).mono ?_; rintro e w1 ⟨rfl, rfl⟩)
  | (at_builtin; go_must ((with_reducible refine wpList_app w.heap.size 3 _ 1 8 elem_int Tryz.underlying45 (.slice ao pre.length cap) pre.length _ ⟨w1.heap.size, 0, none⟩ 1 1 [.int .i64 (v)] ?_ ?_ (HO.out.alloc _) (one_cell _ _ _) (one_int _) ⟨rfl, by decide, by omega, by omega, by have := HB.out.size; simp; omega⟩ ?_); (· rfl); (· rfl); intro g6 cap6 w6 hown hgrow hbl hat hlt6; (have HO6 := Lib.hid hown; have HB6 := Lib.hid hbl; clear hown hgrow hbl hat))))
                  go_roundg (s.size + 1 - (i + 1))
                  case measure => omega
                  case rel => exact ⟨i + 1, i + 1, pre ++ [s.extract f i], by omega, by omega, by go_num, by go_num, by rw [HW2.out] <;> first | rfl | simp [*], HP2.out, by rw [HV2.out, HLS.out, List.map_append]; exact HO6.out, (HB.out.al _).trans HB6.out⟩
      · obtain ⟨e1, e2⟩ := HP.out.stop hi
        have hi2 : ¬ (i : Int) ≤ (s.size : Int) := by omega
        rw [e1] at HREF
        have HRF := Lib.hid (HREF.out e2)
        have HCL := Lib.hid hcel
        have HVL := Lib.hid (valsR_length pre)
        clear hcel e1 e2 HREF hfi HP HSYN
        cases hw : wideR pre with
        | true =>
          have HR := Lib.hid (show r = ([], 2) by rw [HRF.out, hw]; rfl)
          clear hw HRF
          go_wp2
          go_ret2
          exact ⟨none, 0, by rw [HR.out]; rfl, by rw [HR.out]; exact Cel.nil _ _, HB.out, fun _ e => by cases e⟩
        | false =>
          have HX := Lib.hid (fun W h => refRkRight_any (valsR pre) ao cap W (by rw [HVL.out]; omega) h)
          rw [HVL.out] at HX
          cases hr : rankB (valsR pre) with
          | false =>
            have HR := Lib.hid (show r = ([], 2) by rw [HRF.out, hw, hr]; rfl)
            rw [hr] at HX
            clear hw HRF hr
            go_wp2_with (go_at_call 146; refine (HX.out _ HCL.out).mono ?_; rintro e w1 ⟨rfl, rfl⟩)
            go_ret2
            exact ⟨none, 0, by rw [HR.out]; rfl, by rw [HR.out]; exact Cel.nil _ _, HB.out, fun _ e => by cases e⟩
          | true =>
            have HR := Lib.hid (show r = (valsR pre, 0) by rw [HRF.out, hw, hr]; rfl)
            rw [hr] at HX
            clear hw HRF hr
            go_wp2_with (go_at_call 146; refine (HX.out _ HCL.out).mono ?_; rintro e w1 ⟨rfl, rfl⟩)
            go_ret2
            exact ⟨ao, cap, by rw [HR.out, HVL.out]; rfl, by rw [HR.out]; exact HCL.out, HB.out, fun x h => by subst h; exact (HO.out.lt x.block rfl).1⟩

theorem refRkParse_any (s : ByteArray) (w : World) (hs : s.size ≤ 4096) : Calls Tryz.prog 109 #[.string s] w (RkPost w (rankP s)) :=
  (refRkParse_own s w hs).mono fun _ _ ⟨ao, cap, h1, h2, h3, _⟩ => ⟨ao, cap, h1, h2, h3⟩

end Go.Proofs.YtelcmkccfjdmjaaGreatDoor
