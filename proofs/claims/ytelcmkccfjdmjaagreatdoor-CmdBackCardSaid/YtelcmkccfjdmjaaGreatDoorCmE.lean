/-
  The reader of package cmd in the machine's memory, and its walks: a number, a word of a kind.
  Walk of package cmd: a word that is a ratio.
  Walk of package cmd: what stands behind a name: a graph, a rank.
  Walk of package cmd: what stands behind a name: words of their kinds.
  Package cmd: what stands behind any name.
-/
import Derived.Test.YtelcmkccfjdmjaaGreatDoorProg
import Derived.Test.YtelcmkccfjdmjaaGreatDoorCmA
import Derived.Test.YtelcmkccfjdmjaaGreatDoorRatioD
import Derived.Deep.RegionLaw
import Derived.Test.YtelcmkccfjdmjaaGreatDoorGpD
import Derived.Test.YtelcmkccfjdmjaaGreatDoorRkD
import Derived.Lib.OthersKept
namespace Go.Proofs.YtelcmkccfjdmjaaGreatDoor
open Go Go.Proofs Go.RowKit Go.Shelf Go.Sort

/-- a block of cells that may be written -/
def PB (W : World) (b : Nat) (xs : List Value) : Prop := ∀ (i : Nat) (x : Value), xs[i]? = some x → W.cell? ⟨b, i, none⟩ = some x ∧ W.frozen? ⟨b, i, none⟩ = false
theorem PB.eq {W W' : World} {b : Nat} {xs : List Value} (h : PB W b xs) (he : W'.heap[b]? = W.heap[b]?) : PB W' b xs := fun i x hx =>
  ⟨(World.cell?_of_block (a := ⟨b, i, none⟩) he).trans (h i x hx).1, (World.frozen?_of_block (a := ⟨b, i, none⟩) he).trans (h i x hx).2⟩
theorem PB.lt {W : World} {b : Nat} {x : Value} {xs : List Value} (h : PB W b (x :: xs)) : b < W.heap.size := World.block_lt_of_cell? _ _ (h 0 x rfl).1
theorem PB.go {W W' : World} {b : Nat} {x : Value} {xs : List Value} (h : PB W b (x :: xs)) (hb : Below W.heap.size W W') : PB W' b (x :: xs) := h.eq (hb.block b h.lt)
theorem PB.setAt {W : World} {b c j : Nat} {xs : List Value} (h : PB W b xs) (hn : c ≠ b) (u : Value) : PB (W.setCell ⟨c, j, none⟩ u) b xs := h.eq (Below.heap_setCell _ _ _ _ (Ne.symm hn))
theorem PB.set {W : World} {b : Nat} {xs : List Value} (h : PB W b xs) (j : Nat) (u : Value) : PB (W.setCell ⟨b, j, none⟩ u) b (xs.set j u) := by
  intro i x hx
  rw [World.frozen?_setCell]
  by_cases e : i = j
  · subst e
    have hlt : i < xs.length := by
      have := (List.getElem?_eq_some_iff.1 hx).1
      simpa using this
    rw [List.getElem?_set_self hlt] at hx
    cases hx
    obtain ⟨h1, h2⟩ := h i xs[i] (List.getElem?_eq_getElem hlt)
    exact ⟨World.cell?_setCell_same _ _ _ h1, h2⟩
  · rw [List.getElem?_set_ne (Ne.symm e)] at hx
    obtain ⟨h1, h2⟩ := h i x hx
    exact ⟨by rw [World.cell?_setCell_other _ _ _ _ (by simp; try omega)]; exact h1, h2⟩

/-- what lies below base stays, but for one block -/
def KP (b base : Nat) (W W' : World) : Prop := Below b W W' ∧ ∀ k, k < base → k ≠ b → W'.heap[k]? = W.heap[k]?
theorem KP.refl (b base : Nat) (W : World) : KP b base W W := ⟨Below.refl _ _, fun _ _ _ => rfl⟩
theorem KP.low {b base : Nat} {W A C : World} (h : KP b base W A) (hlt : b < base) (hb : Below base A C) : KP b base W C :=
  ⟨h.1.trans (hb.mono (by omega)), fun k h1 h2 => (hb.block k h1).trans (h.2 k h1 h2)⟩
theorem KP.go {b base : Nat} {W A C : World} (h : KP b base W A) (hlt : b < base) (hz : base ≤ A.heap.size) (hb : Below A.heap.size A C) : KP b base W C := h.low hlt (hb.mono hz)
theorem KP.put {b base : Nat} {W A : World} (h : KP b base W A) (j : Nat) (u : Value) : KP b base W (A.setCell ⟨b, j, none⟩ u) :=
  ⟨h.1.setCell (Nat.le_refl _) _, fun k h1 h2 => (Below.heap_setCell _ _ _ _ h2).trans (h.2 k h1 h2)⟩
theorem KP.trans {b base : Nat} {W A C : World} (h : KP b base W A) (k : KP b base A C) : KP b base W C := ⟨h.1.trans k.1, fun j h1 h2 => (k.2 j h1 h2).trans (h.2 j h1 h2)⟩

def flatP : List (Int × Int) → List Value
  | [] => []
  | p :: l => .int .u64 p.1 :: .int .u64 p.2 :: flatP l
theorem flatP_snoc : ∀ (l : List (Int × Int)) (p : Int × Int), flatP (l ++ [p]) = flatP l ++ [.int .u64 p.1, .int .u64 p.2]
  | [], p => rfl
  | q :: l, p => by rw [List.cons_append, flatP, flatP, flatP_snoc l p]; rfl

/-- the reader's block -/
def rdL (c : CmD) (f : Int) (vi vr : Value) : List Value := [.string c.name, vi, .int .u64 c.w, vr, .int .i64 0, .slice none 0 0, .slice none 0 0, .int .i64 f]
structure RdS (W : World) (b base : Nat) (c : CmD) (f : Int) (vi vr : Value) : Prop where
  pb : PB W b (rdL c f vi vr)
  oi : W.ownsRow base 3 1 vi c.ints.length (c.ints.map encI)
  oq : W.ownsRow base 98 2 vr c.rats.length (flatP c.rats)
  far : ∀ k, vi.ownBlock = some k → vr.ownBlock ≠ some k
theorem RdS.go {W W' : World} {b base : Nat} {c : CmD} {f : Int} {vi vr : Value} (h : RdS W b base c f vi vr) (hb : Below W.heap.size W W') : RdS W' b base c f vi vr :=
  ⟨h.pb.go hb, cm_owns_go h.oi hb, cm_owns_go h.oq hb, h.far⟩
theorem RdS.int {W W' : World} {b base : Nat} {c : CmD} {f f' x : Int} {vi vr : Value} {g cap : Nat} (h : RdS W b base c f vi vr) (hlt : b < base) (ho : W'.ownsRow base 3 1 (.slice (some ⟨g, 0, none⟩) (c.ints.length + 1) cap) (c.ints.length + 1) (c.ints.map encI ++ [.int .i64 x]))
    (hg : W.grownBy W' vi.ownBlock) (hat : vi.ownBlock = some g ∨ g = W.heap.size) :
    RdS ((W'.setCell ⟨b, 1, none⟩ (.slice (some ⟨g, 0, none⟩) (c.ints.length + 1) cap)).setCell ⟨b, 7, none⟩ (.int .i64 f')) b base { c with ints := c.ints ++ [x] } f' (.slice (some ⟨g, 0, none⟩) (c.ints.length + 1) cap) vr := by
  have hp : PB W' b (rdL c f vi vr) := h.pb.eq (hg.block b h.pb.lt (fun e => by have := (h.oi.lt b e.symm).1; omega))
  refine ⟨(hp.set 1 _).set 7 _, ?_, ?_, ?_⟩
  · rw [show (c.ints ++ [x]).length = c.ints.length + 1 by simp, List.map_append]
    exact ownsRow_setCell_below (ownsRow_setCell_below ho (a := ⟨b, 1, none⟩) hlt _) (a := ⟨b, 7, none⟩) hlt _
  · refine ownsRow_setCell_below (ownsRow_setCell_below (h.oq.kept hg ?_) (a := ⟨b, 1, none⟩) hlt _) (a := ⟨b, 7, none⟩) hlt _
    cases hv : vr.ownBlock with
    | none => exact .inl rfl
    | some k => exact .inr (fun e => h.far k e.symm hv)
  · intro k hk
    cases hk
    rcases hat with e | e
    · exact h.far _ e
    · intro e2
      have h9 : g < W.heap.size := (h.oq.lt _ e2).2
      omega

def numF (lo hi : Int) (s : ByteArray) : Int := if (intI s hi).2 = 0 ∧ (intI s hi).1 < lo then 2 else (intI s hi).2

theorem cm_elemi : Elem Tryz.prog 3 (.int .i64 0) 1 8 := ⟨by kernel_rfl, rfl, by decide⟩
theorem cm_onei (n : Int) : ∀ u ∈ [Value.int .i64 n], u.oneCell' = true := by
  intro u hu
  rw [List.mem_singleton] at hu
  subst hu
  rfl

set_option maxRecDepth 100000 in
set_option maxHeartbeats 4000000 in
theorem number_any (s : ByteArray) (lo hi : Int) (c : CmD) (f0 : Int) (b base : Nat) (vi vr : Value) (w : World) (hs : s.size ≤ 65536) (hhi : 0 ≤ hi ∧ hi ≤ 100000) (hc : c.ints.length ≤ 1000000) (hlt : b < base) (hbz : base ≤ w.heap.size) (h : RdS w b base c f0 vi vr) :
    Calls Tryz.prog 157 #[.pointer (some ⟨b, 0, none⟩), .string s, .int .i64 lo, .int .i64 hi] w fun e w' => e = .returned (.tuple #[]) ∧ (∃ vi', RdS w' b base { c with ints := c.ints ++ [(intI s hi).1] } (numF lo hi s) vi' vr) ∧ KP b base w w' := by
  have HI := Lib.hid (fun W => Int_any s hi W (by omega) (by omega))
  have HR := Lib.hid h
  obtain ⟨ao, cap, rfl, -⟩ := Cel.of_owns h.oi
  unfold numF
  generalize intI s hi = q at *
  obtain ⟨n, f⟩ := q
  simp only at HI ⊢
  clear h
  by_cases hf : f = 0
  · subst hf
    by_cases hn : n < lo
    · rw [if_pos ⟨rfl, hn⟩]
      go_enter Tryz.func157, Tryz.ntmps157
      go_wp2_with (first
        | (go_at_call 126; refine (HI.out _).mono ?_; rintro e w1 ⟨rfl, hb1⟩; (have HR1 := Lib.hid (HR.out.go hb1); have HB1 := Lib.hid ((KP.refl b base w).go hlt hbz hb1); have hz1 := hb1.size; clear hb1); obtain ⟨p1, q1⟩ := HR1.out.pb 1 _ rfl; obtain ⟨p7, q7⟩ := HR1.out.pb 7 _ rfl)
        | (at_builtin; go_must ((with_reducible refine wpList_app base 3 _ 1 8 cm_elemi Tryz.underlying45 (.slice ao c.ints.length cap) c.ints.length _ ⟨w1.heap.size, 0, none⟩ 1 1 [.int .i64 n] ?_ ?_ (HR1.out.oi.alloc _) (cm_one_at _ _ _ rfl) (cm_onei _) ⟨rfl, by decide, by omega, by omega, by simp; omega⟩ ?_); (· rfl); (· rfl); intro g6 cap6 w6 hown hgrow hbl hat hlt6; (have HR6 := Lib.hid (fun f' => (HR1.out.go (Below.of_al w1 (Obj.cells #[.int .i64 n] 3))).int (f' := f') hlt hown hgrow hat); have HP6 := Lib.hid ((HR1.out.go (Below.of_al w1 (Obj.cells #[.int .i64 n] 3))).pb.eq (hgrow.block b (by simp; omega) (fun e => by have := (HR1.out.oi.lt b e.symm).1; omega))); have HB6 := Lib.hid ((HB1.out.go hlt (by omega) (Below.of_al _ _)).low hlt hbl); clear hown hgrow hbl hat); obtain ⟨p1, q1⟩ := HP6.out 1 _ rfl; obtain ⟨p7, q7⟩ := HP6.out 7 _ rfl)))
      (try simp only [Exit.inBlock, Exit.then])
      first | refine bodyPost_ret (results_none rfl _ _ _) rfl ?_ | refine bodyPost_end (results_none rfl _ _ _) rfl ?_
      exact ⟨rfl, ⟨_, HR6.out 2⟩, (HB6.out.put _ _).put _ _⟩
    · rw [if_neg (fun hh => hn hh.2)]
      go_enter Tryz.func157, Tryz.ntmps157
      go_wp2_with (first
        | (go_at_call 126; refine (HI.out _).mono ?_; rintro e w1 ⟨rfl, hb1⟩; (have HR1 := Lib.hid (HR.out.go hb1); have HB1 := Lib.hid ((KP.refl b base w).go hlt hbz hb1); have hz1 := hb1.size; clear hb1); obtain ⟨p1, q1⟩ := HR1.out.pb 1 _ rfl; obtain ⟨p7, q7⟩ := HR1.out.pb 7 _ rfl)
        | (at_builtin; go_must ((with_reducible refine wpList_app base 3 _ 1 8 cm_elemi Tryz.underlying45 (.slice ao c.ints.length cap) c.ints.length _ ⟨w1.heap.size, 0, none⟩ 1 1 [.int .i64 n] ?_ ?_ (HR1.out.oi.alloc _) (cm_one_at _ _ _ rfl) (cm_onei _) ⟨rfl, by decide, by omega, by omega, by simp; omega⟩ ?_); (· rfl); (· rfl); intro g6 cap6 w6 hown hgrow hbl hat hlt6; (have HR6 := Lib.hid (fun f' => (HR1.out.go (Below.of_al w1 (Obj.cells #[.int .i64 n] 3))).int (f' := f') hlt hown hgrow hat); have HP6 := Lib.hid ((HR1.out.go (Below.of_al w1 (Obj.cells #[.int .i64 n] 3))).pb.eq (hgrow.block b (by simp; omega) (fun e => by have := (HR1.out.oi.lt b e.symm).1; omega))); have HB6 := Lib.hid ((HB1.out.go hlt (by omega) (Below.of_al _ _)).low hlt hbl); clear hown hgrow hbl hat); obtain ⟨p1, q1⟩ := HP6.out 1 _ rfl; obtain ⟨p7, q7⟩ := HP6.out 7 _ rfl)))
      (try simp only [Exit.inBlock, Exit.then])
      first | refine bodyPost_ret (results_none rfl _ _ _) rfl ?_ | refine bodyPost_end (results_none rfl _ _ _) rfl ?_
      exact ⟨rfl, ⟨_, HR6.out 0⟩, (HB6.out.put _ _).put _ _⟩
  · have hf2 : (f == 0) = false := by simpa using hf
    rw [if_neg (fun hh => hf hh.1)]
    clear hf
    go_enter Tryz.func157, Tryz.ntmps157
    go_wp2_with (first
      | (go_at_call 126; refine (HI.out _).mono ?_; rintro e w1 ⟨rfl, hb1⟩; (have HR1 := Lib.hid (HR.out.go hb1); have HB1 := Lib.hid ((KP.refl b base w).go hlt hbz hb1); have hz1 := hb1.size; clear hb1); obtain ⟨p1, q1⟩ := HR1.out.pb 1 _ rfl; obtain ⟨p7, q7⟩ := HR1.out.pb 7 _ rfl)
      | (at_builtin; go_must ((with_reducible refine wpList_app base 3 _ 1 8 cm_elemi Tryz.underlying45 (.slice ao c.ints.length cap) c.ints.length _ ⟨w1.heap.size, 0, none⟩ 1 1 [.int .i64 n] ?_ ?_ (HR1.out.oi.alloc _) (cm_one_at _ _ _ rfl) (cm_onei _) ⟨rfl, by decide, by omega, by omega, by simp; omega⟩ ?_); (· rfl); (· rfl); intro g6 cap6 w6 hown hgrow hbl hat hlt6; (have HR6 := Lib.hid (fun f' => (HR1.out.go (Below.of_al w1 (Obj.cells #[.int .i64 n] 3))).int (f' := f') hlt hown hgrow hat); have HP6 := Lib.hid ((HR1.out.go (Below.of_al w1 (Obj.cells #[.int .i64 n] 3))).pb.eq (hgrow.block b (by simp; omega) (fun e => by have := (HR1.out.oi.lt b e.symm).1; omega))); have HB6 := Lib.hid ((HB1.out.go hlt (by omega) (Below.of_al _ _)).low hlt hbl); clear hown hgrow hbl hat); obtain ⟨p1, q1⟩ := HP6.out 1 _ rfl; obtain ⟨p7, q7⟩ := HP6.out 7 _ rfl)))
    (try simp only [Exit.inBlock, Exit.then])
    first | refine bodyPost_ret (results_none rfl _ _ _) rfl ?_ | refine bodyPost_end (results_none rfl _ _ _) rfl ?_
    exact ⟨rfl, ⟨_, HR6.out f⟩, (HB6.out.put _ _).put _ _⟩

/-- what a word of a kind leaves in the reader -/
def TakePostC (w : World) (b base : Nat) (k : UInt8) (s : ByteArray) (c : CmD) (e : Ending) (w' : World) : Prop :=
  e = .returned (.tuple #[]) ∧ (∃ vi vr, RdS w' b base (tkC k s c) (tkF k s) vi vr) ∧ KP b base w w'
theorem tk_num {k : UInt8} (h : k = 110 ∨ k = 101 ∨ k = 107 ∨ k = 111) (s : ByteArray) (c : CmD) : tkF k s = numF (leastC k) (mostC k) s ∧ tkC k s c = { c with ints := c.ints ++ [(intI s (mostC k)).1] } := by
  rcases h with rfl | rfl | rfl | rfl <;> exact ⟨rfl, rfl⟩

set_option maxRecDepth 100000 in
set_option maxHeartbeats 4000000 in
theorem cmdTake_num (k : UInt8) (hk : k = 110 ∨ k = 101 ∨ k = 107 ∨ k = 111) (s : ByteArray) (c : CmD) (b base : Nat) (vi vr : Value) (w : World) (hs : s.size ≤ 65536) (hc : c.ints.length ≤ 1000000) (hlt : b < base) (hbz : base ≤ w.heap.size) (h : RdS w b base c 0 vi vr) :
    Calls Tryz.prog 117 #[.pointer (some ⟨b, 0, none⟩), .int .i32 (k.toNat : Int), .string s] w (TakePostC w b base k s c) := by
  obtain ⟨e1, e2⟩ := tk_num hk s c
  unfold TakePostC
  rw [e1, e2]
  have HNB := Lib.hid (number_any s (leastC k) (mostC k) c 0 b base vi vr w hs (by rcases hk with rfl | rfl | rfl | rfl <;> decide) hc hlt hbz h)
  clear h e1 e2
  rcases hk with rfl | rfl | rfl | rfl
  · (go_enter Tryz.func117, Tryz.ntmps117; go_wp2_with (go_at_call 157; refine HNB.out.mono ?_; rintro e w1 ⟨rfl, hr1, hb1⟩); (try simp only [Exit.inBlock, Exit.then]); (first | refine bodyPost_ret (results_none rfl _ _ _) rfl ?_ | refine bodyPost_end (results_none rfl _ _ _) rfl ?_); exact ⟨rfl, ⟨hr1.choose, _, hr1.choose_spec⟩, hb1⟩)
  · (go_enter Tryz.func117, Tryz.ntmps117; go_wp2_with (go_at_call 157; refine HNB.out.mono ?_; rintro e w1 ⟨rfl, hr1, hb1⟩); (try simp only [Exit.inBlock, Exit.then]); (first | refine bodyPost_ret (results_none rfl _ _ _) rfl ?_ | refine bodyPost_end (results_none rfl _ _ _) rfl ?_); exact ⟨rfl, ⟨hr1.choose, _, hr1.choose_spec⟩, hb1⟩)
  · (go_enter Tryz.func117, Tryz.ntmps117; go_wp2_with (go_at_call 157; refine HNB.out.mono ?_; rintro e w1 ⟨rfl, hr1, hb1⟩); (try simp only [Exit.inBlock, Exit.then]); (first | refine bodyPost_ret (results_none rfl _ _ _) rfl ?_ | refine bodyPost_end (results_none rfl _ _ _) rfl ?_); exact ⟨rfl, ⟨hr1.choose, _, hr1.choose_spec⟩, hb1⟩)
  · (go_enter Tryz.func117, Tryz.ntmps117; go_wp2_with (go_at_call 157; refine HNB.out.mono ?_; rintro e w1 ⟨rfl, hr1, hb1⟩); (try simp only [Exit.inBlock, Exit.then]); (first | refine bodyPost_ret (results_none rfl _ _ _) rfl ?_ | refine bodyPost_end (results_none rfl _ _ _) rfl ?_); exact ⟨rfl, ⟨hr1.choose, _, hr1.choose_spec⟩, hb1⟩)

set_option maxRecDepth 100000 in
set_option maxHeartbeats 4000000 in
theorem cmdTake_w (k : UInt8) (hk : k = 119 ∨ k = 97) (s : ByteArray) (c : CmD) (b base : Nat) (vi vr : Value) (w : World) (hs : s.size ≤ 65536) (hlt : b < base) (hbz : base ≤ w.heap.size) (h : RdS w b base c 0 vi vr) :
    Calls Tryz.prog 117 #[.pointer (some ⟨b, 0, none⟩), .int .i32 (k.toNat : Int), .string s] w (TakePostC w b base k s c) := by
  have HPI := Lib.hid (show ∀ W, Calls Tryz.prog 80 #[.string s] W fun e w' => e = .returned (.tuple #[.int .u64 (parseI s).1, .int .i64 (parseI s).2]) ∧ Below W.heap.size W w' from fun W => Parse_any _ W (by omega))
  have HR := Lib.hid h
  clear h
  rcases hk with rfl | rfl
  · have e1 : tkF 119 s = if (parseI s).2 = 0 ∧ ((parseI s).1 < 1 ∨ 4294967296 < (parseI s).1) then 2 else (parseI s).2 := rfl
    have e2 : tkC 119 s c = { c with w := (parseI s).1 } := rfl
    unfold TakePostC
    rw [e1, e2]
    clear e1 e2
    generalize parseI s = q at *
    obtain ⟨n, f⟩ := q
    simp only at HPI ⊢
    by_cases hf : f = 0
    · subst hf
      by_cases h1 : n < 1
      · rw [if_pos ⟨rfl, .inl h1⟩]
        go_enter Tryz.func117, Tryz.ntmps117
        go_wp2_with (go_at_call 80; refine (HPI.out _).mono ?_; rintro e w1 ⟨rfl, hb1⟩; (have HR1 := Lib.hid (HR.out.go hb1); have HB1 := Lib.hid ((KP.refl b base w).go hlt hbz hb1); clear hb1); obtain ⟨p2, q2⟩ := HR1.out.pb 2 _ rfl; obtain ⟨p7, q7⟩ := HR1.out.pb 7 _ rfl)
        (try simp only [Exit.inBlock, Exit.then])
        first | refine bodyPost_ret (results_none rfl _ _ _) rfl ?_ | refine bodyPost_end (results_none rfl _ _ _) rfl ?_
        exact ⟨rfl, ⟨vi, vr, (HR1.out.pb.set 2 _).set 7 _, ownsRow_setCell_below (ownsRow_setCell_below HR1.out.oi (a := ⟨b, 2, none⟩) hlt _) (a := ⟨b, 7, none⟩) hlt _, ownsRow_setCell_below (ownsRow_setCell_below HR1.out.oq (a := ⟨b, 2, none⟩) hlt _) (a := ⟨b, 7, none⟩) hlt _, HR1.out.far⟩, (HB1.out.put _ _).put _ _⟩
      · by_cases h2 : 4294967296 < n
        · rw [if_pos ⟨rfl, .inr h2⟩]
          go_enter Tryz.func117, Tryz.ntmps117
          go_wp2_with (go_at_call 80; refine (HPI.out _).mono ?_; rintro e w1 ⟨rfl, hb1⟩; (have HR1 := Lib.hid (HR.out.go hb1); have HB1 := Lib.hid ((KP.refl b base w).go hlt hbz hb1); clear hb1); obtain ⟨p2, q2⟩ := HR1.out.pb 2 _ rfl; obtain ⟨p7, q7⟩ := HR1.out.pb 7 _ rfl)
          (try simp only [Exit.inBlock, Exit.then])
          first | refine bodyPost_ret (results_none rfl _ _ _) rfl ?_ | refine bodyPost_end (results_none rfl _ _ _) rfl ?_
          exact ⟨rfl, ⟨vi, vr, (HR1.out.pb.set 2 _).set 7 _, ownsRow_setCell_below (ownsRow_setCell_below HR1.out.oi (a := ⟨b, 2, none⟩) hlt _) (a := ⟨b, 7, none⟩) hlt _, ownsRow_setCell_below (ownsRow_setCell_below HR1.out.oq (a := ⟨b, 2, none⟩) hlt _) (a := ⟨b, 7, none⟩) hlt _, HR1.out.far⟩, (HB1.out.put _ _).put _ _⟩
        · rw [if_neg (fun hh => hh.2.elim h1 h2)]
          go_enter Tryz.func117, Tryz.ntmps117
          go_wp2_with (go_at_call 80; refine (HPI.out _).mono ?_; rintro e w1 ⟨rfl, hb1⟩; (have HR1 := Lib.hid (HR.out.go hb1); have HB1 := Lib.hid ((KP.refl b base w).go hlt hbz hb1); clear hb1); obtain ⟨p2, q2⟩ := HR1.out.pb 2 _ rfl; obtain ⟨p7, q7⟩ := HR1.out.pb 7 _ rfl)
          (try simp only [Exit.inBlock, Exit.then])
          first | refine bodyPost_ret (results_none rfl _ _ _) rfl ?_ | refine bodyPost_end (results_none rfl _ _ _) rfl ?_
          exact ⟨rfl, ⟨vi, vr, (HR1.out.pb.set 2 _).set 7 _, ownsRow_setCell_below (ownsRow_setCell_below HR1.out.oi (a := ⟨b, 2, none⟩) hlt _) (a := ⟨b, 7, none⟩) hlt _, ownsRow_setCell_below (ownsRow_setCell_below HR1.out.oq (a := ⟨b, 2, none⟩) hlt _) (a := ⟨b, 7, none⟩) hlt _, HR1.out.far⟩, (HB1.out.put _ _).put _ _⟩
    · have hf2 : (f == 0) = false := by simpa using hf
      rw [if_neg (fun hh => hf hh.1)]
      clear hf
      go_enter Tryz.func117, Tryz.ntmps117
      go_wp2_with (go_at_call 80; refine (HPI.out _).mono ?_; rintro e w1 ⟨rfl, hb1⟩; (have HR1 := Lib.hid (HR.out.go hb1); have HB1 := Lib.hid ((KP.refl b base w).go hlt hbz hb1); clear hb1); obtain ⟨p2, q2⟩ := HR1.out.pb 2 _ rfl; obtain ⟨p7, q7⟩ := HR1.out.pb 7 _ rfl)
      (try simp only [Exit.inBlock, Exit.then])
      first | refine bodyPost_ret (results_none rfl _ _ _) rfl ?_ | refine bodyPost_end (results_none rfl _ _ _) rfl ?_
      exact ⟨rfl, ⟨vi, vr, (HR1.out.pb.set 2 _).set 7 _, ownsRow_setCell_below (ownsRow_setCell_below HR1.out.oi (a := ⟨b, 2, none⟩) hlt _) (a := ⟨b, 7, none⟩) hlt _, ownsRow_setCell_below (ownsRow_setCell_below HR1.out.oq (a := ⟨b, 2, none⟩) hlt _) (a := ⟨b, 7, none⟩) hlt _, HR1.out.far⟩, (HB1.out.put _ _).put _ _⟩
  · have e1 : tkF 97 s = (parseI s).2 := rfl
    have e2 : tkC 97 s c = { c with w := (parseI s).1 } := rfl
    unfold TakePostC
    rw [e1, e2]
    clear e1 e2
    generalize parseI s = q at *
    obtain ⟨n, f⟩ := q
    simp only at HPI ⊢
    cases hf : (f == 0) with
    | true =>
      go_enter Tryz.func117, Tryz.ntmps117
      go_wp2_with (go_at_call 80; refine (HPI.out _).mono ?_; rintro e w1 ⟨rfl, hb1⟩; (have HR1 := Lib.hid (HR.out.go hb1); have HB1 := Lib.hid ((KP.refl b base w).go hlt hbz hb1); clear hb1); obtain ⟨p2, q2⟩ := HR1.out.pb 2 _ rfl; obtain ⟨p7, q7⟩ := HR1.out.pb 7 _ rfl)
      (try simp only [Exit.inBlock, Exit.then])
      first | refine bodyPost_ret (results_none rfl _ _ _) rfl ?_ | refine bodyPost_end (results_none rfl _ _ _) rfl ?_
      exact ⟨rfl, ⟨vi, vr, (HR1.out.pb.set 2 _).set 7 _, ownsRow_setCell_below (ownsRow_setCell_below HR1.out.oi (a := ⟨b, 2, none⟩) hlt _) (a := ⟨b, 7, none⟩) hlt _, ownsRow_setCell_below (ownsRow_setCell_below HR1.out.oq (a := ⟨b, 2, none⟩) hlt _) (a := ⟨b, 7, none⟩) hlt _, HR1.out.far⟩, (HB1.out.put _ _).put _ _⟩
    | false =>
      go_enter Tryz.func117, Tryz.ntmps117
      go_wp2_with (go_at_call 80; refine (HPI.out _).mono ?_; rintro e w1 ⟨rfl, hb1⟩; (have HR1 := Lib.hid (HR.out.go hb1); have HB1 := Lib.hid ((KP.refl b base w).go hlt hbz hb1); clear hb1); obtain ⟨p2, q2⟩ := HR1.out.pb 2 _ rfl; obtain ⟨p7, q7⟩ := HR1.out.pb 7 _ rfl)
      (try simp only [Exit.inBlock, Exit.then])
      first | refine bodyPost_ret (results_none rfl _ _ _) rfl ?_ | refine bodyPost_end (results_none rfl _ _ _) rfl ?_
      exact ⟨rfl, ⟨vi, vr, (HR1.out.pb.set 2 _).set 7 _, ownsRow_setCell_below (ownsRow_setCell_below HR1.out.oi (a := ⟨b, 2, none⟩) hlt _) (a := ⟨b, 7, none⟩) hlt _, ownsRow_setCell_below (ownsRow_setCell_below HR1.out.oq (a := ⟨b, 2, none⟩) hlt _) (a := ⟨b, 7, none⟩) hlt _, HR1.out.far⟩, (HB1.out.put _ _).put _ _⟩

/-- append at a step of a region that draws its order, what else stays, and where the row lies -/
theorem step_appC {P : Program} {w : World} {ops : Array Oper} {o : Oper} {a : Act} {K : Act → World → Prop} {Q : Exit → Act → World → Prop} {F : Prop} (hgd : o.guard = none) (s x : Operand) (t : TypeId)
    (ho : o.op = .call { callee := .builtin .append, args := #[s, x], argTypes := #[t, t] })
    (base : Nat) (E : TypeId) (z : Value) (size bytes : Nat) (hE : Elem P E z size bytes) (ht : P.underlying t = some (.slice E))
    (v : Value) (n : Nat) (xs : List Value) (ad : Addr) (m c : Nat) (news : List Value) (hs : a.eval s = v) (hx : a.eval x = .slice (some ad) m c)
    (hown : w.ownsRow base E size v n xs) (hnews : ∀ j u, news[j]? = some u → w.cell? (ad.add j) = some u) (h1 : ∀ u ∈ news, u.oneCell' = true)
    (hl : news.length = m * size ∧ 0 < m ∧ n + m ≤ 9223372036854775807 ∧ (n + m) * bytes ≤ 140737488355328 ∧ base ≤ w.heap.size)
    (h : ∀ g cap w', w'.ownsRow base E size (.slice (some ⟨g, 0, none⟩) (n + m) cap) (n + m) (xs ++ news) → w.grownBy w' v.ownBlock → Below base w w' → (v.ownBlock = some g ∨ g = w.heap.size) → K (a.put o.dst (.slice (some ⟨g, 0, none⟩) (n + m) cap)) w') :
    if Region.wanted o (yielded ops a.tmps) = true then Oper.wp P o a w K Q else F := by
  obtain ⟨hE, hz1, hz2⟩ := hE
  obtain ⟨i, hi, hz, hsz, hby⟩ := info_parts hE
  obtain ⟨l1, l2, l3, l4, l5⟩ := hl
  refine step_append_lies w hgd s x t ho base E i z size bytes ht hi hz hsz hby hz1 hz2 v n xs hs hown ad m c news hx l1 hnews h1 l2 (by unfold maxLen; omega) l4 l5 _ rfl ?_
  intro g cap w' ho hg hat hlt
  exact h g cap w' ho hg ((Below.refl _ w).grown hg l5 (fun k hk => (hown.lt k hk).1)) hat

theorem cm_elemq : Elem Tryz.prog 98 (.agg #[.int .u64 0, .int .u64 0]) 2 16 := ⟨by kernel_rfl, rfl, by decide⟩
theorem cm_oneq (a b : Int) : ∀ u ∈ [Value.int .u64 a, .int .u64 b], u.oneCell' = true := by
  intro u hu
  simp at hu
  rcases hu with rfl | rfl <;> rfl
theorem cm_two (w : World) (x y : Value) (T : TypeId) {k : Nat} (hk : k = w.heap.size) : ∀ j u, [x, y][j]? = some u → (w.alloc (.cells #[x, y] T)).cell? ((⟨k, 0, none⟩ : Addr).add j) = some u := by
  intro j u hu
  subst hk
  rw [Addr.add_lit]
  have := World.cell?_alloc_mark w #[x, y] T (0, 0) (0 + j)
  rw [this]
  simpa using hu
theorem RdS.rat {W W' : World} {b base : Nat} {c : CmD} {f f' : Int} {q : Int × Int} {vi vr : Value} {g cap : Nat} (h : RdS W b base c f vi vr) (hlt : b < base) (ho : W'.ownsRow base 98 2 (.slice (some ⟨g, 0, none⟩) (c.rats.length + 1) cap) (c.rats.length + 1) (flatP c.rats ++ [.int .u64 q.1, .int .u64 q.2]))
    (hg : W.grownBy W' vr.ownBlock) (hat : vr.ownBlock = some g ∨ g = W.heap.size) :
    RdS ((W'.setCell ⟨b, 3, none⟩ (.slice (some ⟨g, 0, none⟩) (c.rats.length + 1) cap)).setCell ⟨b, 7, none⟩ (.int .i64 f')) b base { c with rats := c.rats ++ [q] } f' vi (.slice (some ⟨g, 0, none⟩) (c.rats.length + 1) cap) := by
  have hp : PB W' b (rdL c f vi vr) := h.pb.eq (hg.block b h.pb.lt (fun e => by have := (h.oq.lt b e.symm).1; omega))
  refine ⟨(hp.set 3 _).set 7 _, ?_, ?_, ?_⟩
  · refine ownsRow_setCell_below (ownsRow_setCell_below (h.oi.kept hg ?_) (a := ⟨b, 3, none⟩) hlt _) (a := ⟨b, 7, none⟩) hlt _
    cases hv : vi.ownBlock with
    | none => exact .inl rfl
    | some k => exact .inr (fun e => h.far k hv e.symm)
  · rw [show (c.rats ++ [q]).length = c.rats.length + 1 by simp, flatP_snoc]
    exact ownsRow_setCell_below (ownsRow_setCell_below ho (a := ⟨b, 3, none⟩) hlt _) (a := ⟨b, 7, none⟩) hlt _
  · intro k hk e
    have e2 : g = k := Option.some.inj e
    subst e2
    rcases hat with e3 | e3
    · exact h.far _ hk e3
    · have h9 : g < W.heap.size := (h.oi.lt _ hk).2
      omega

end Go.Proofs.YtelcmkccfjdmjaaGreatDoor

namespace Go.Proofs.YtelcmkccfjdmjaaGreatDoor
open Go Go.Proofs Go.RowKit Go.Shelf Go.Sort

set_option maxRecDepth 100000 in
set_option maxHeartbeats 8000000 in
theorem cmdTake_r (s : ByteArray) (c : CmD) (b base : Nat) (vi vr : Value) (w : World) (hs : s.size ≤ 65536) (hc : c.rats.length ≤ 1000000) (hlt : b < base) (hbz : base ≤ w.heap.size) (h : RdS w b base c 0 vi vr) :
    Calls Tryz.prog 117 #[.pointer (some ⟨b, 0, none⟩), .int .i32 114, .string s] w (TakePostC w b base 114 s c) := by
  have HPI := Lib.hid (fun W => RParse_any s W (by omega))
  have HR := Lib.hid h
  obtain ⟨ao, cap, rfl, -⟩ := Cel.of_owns h.oi
  obtain ⟨ar, car, rfl, -⟩ := Cel.of_owns h.oq
  have e1 : tkF 114 s = (parseR s).2 := rfl
  have e2 : tkC 114 s c = { c with rats := c.rats ++ [(parseR s).1] } := rfl
  unfold TakePostC
  rw [e1, e2]
  generalize parseR s = q at *
  obtain ⟨⟨qn, qd⟩, f⟩ := q
  simp only [parV] at HPI ⊢
  clear h e1 e2
  go_enter Tryz.func117, Tryz.ntmps117
  go_wp2_with (go_at_call 158; refine (HPI.out _).mono ?_; rintro e w2 ⟨rfl, hb2⟩; (have HR2 := Lib.hid (HR.out.go hb2); have HB2 := Lib.hid ((KP.refl b base w).go hlt hbz hb2); have hz2 := hb2.size; clear hb2))
  obtain ⟨W3, hW3, k0, k1⟩ : ∃ W3, W3 = w2.alloc (Obj.cells #[.int .u64 qn, .int .u64 qd] 98) ∧ W3.cell? ⟨w2.heap.size, 0, none⟩ = some (.int .u64 qn) ∧ W3.cell? ⟨w2.heap.size, 1, none⟩ = some (.int .u64 qd) := ⟨_, rfl, by go_simp, by go_simp⟩
  have HR3 := Lib.hid (show RdS W3 b base c 0 (.slice ao c.ints.length cap) (.slice ar c.rats.length car) by rw [hW3]; exact HR2.out.go (Below.of_al _ _))
  have HB3 := Lib.hid (show KP b base w W3 by rw [hW3]; exact HB2.out.go hlt (by omega) (Below.of_al _ _))
  have HZ3 := Lib.hid (show base ≤ W3.heap.size by rw [hW3]; simp; omega)
  have HO3 := Lib.hid HR3.out.oq
  rw [← hW3]
  generalize w2.heap.size = K at *
  clear hW3 HR2 HB2 hz2
  obtain ⟨p3, f3⟩ := HR3.out.pb 3 _ rfl
  obtain ⟨p7, f7⟩ := HR3.out.pb 7 _ rfl
  have p3a := fun o => cell_later (Below.of_al W3 o) p3
  go_region_law (refine step_appC rfl (.tmp 44) (.tmp 46) 50 rfl base 98 _ 2 16 cm_elemq Tryz.underlying50 (.slice ar c.rats.length car) c.rats.length (flatP c.rats) ⟨W3.heap.size, 0, none⟩ 1 1 [.int .u64 qn, .int .u64 qd] rfl rfl (World.ownsRow.alloc (owns_dr HO3.out 1) _) (cm_two _ _ _ _ rfl) (cm_oneq _ _) ⟨rfl, by decide, by omega, by omega, by have := HZ3.out; simp; omega⟩ ?_; intro g6 cap6 w6 hown hgr hbl hat; (have hU := (Below.of_al W3 (Obj.cells #[.int .u64 qn, .int .u64 qd] 98)).drew; have HR6 := Lib.hid ((HR3.out.go hU).rat (f' := f) (q := (qn, qd)) hlt hown hgr hat); have HP6 := Lib.hid ((HR3.out.go hU).pb.eq (hgr.block b (by have := HZ3.out; have := hU.size; omega) (fun e => by have := (HO3.out.lt b e.symm).1; omega))); have HB6 := Lib.hid ((HB3.out.go hlt HZ3.out hU).low hlt hbl); clear hown hgr hbl hat hU); obtain ⟨p3, f3⟩ := HP6.out 3 _ rfl; obtain ⟨p7, f7⟩ := HP6.out 7 _ rfl)
  all_goals
    go_wp2
    (try simp only [Exit.inBlock, Exit.then])
    first | refine bodyPost_ret (results_none rfl _ _ _) rfl ?_ | refine bodyPost_end (results_none rfl _ _ _) rfl ?_
    exact ⟨rfl, ⟨_, _, HR6.out⟩, (HB6.out.put _ _).put _ _⟩

/-- the kinds of words -/
def isKind (k : UInt8) : Prop := k = 110 ∨ k = 101 ∨ k = 107 ∨ k = 111 ∨ k = 114 ∨ k = 119 ∨ k = 97
theorem cmdTake_any (k : UInt8) (hk : isKind k) (s : ByteArray) (c : CmD) (b base : Nat) (vi vr : Value) (w : World) (hs : s.size ≤ 65536) (hi : c.ints.length ≤ 1000000) (hc : c.rats.length ≤ 1000000) (hlt : b < base) (hbz : base ≤ w.heap.size) (h : RdS w b base c 0 vi vr) :
    Calls Tryz.prog 117 #[.pointer (some ⟨b, 0, none⟩), .int .i32 (k.toNat : Int), .string s] w (TakePostC w b base k s c) := by
  rcases hk with h1 | h1 | h1 | h1 | h1 | h1 | h1
  · exact cmdTake_num k (.inl h1) s c b base vi vr w hs hi hlt hbz h
  · exact cmdTake_num k (.inr (.inl h1)) s c b base vi vr w hs hi hlt hbz h
  · exact cmdTake_num k (.inr (.inr (.inl h1))) s c b base vi vr w hs hi hlt hbz h
  · exact cmdTake_num k (.inr (.inr (.inr h1))) s c b base vi vr w hs hi hlt hbz h
  · subst h1
    exact cmdTake_r s c b base vi vr w hs hc hlt hbz h
  · exact cmdTake_w k (.inl h1) s c b base vi vr w hs hlt hbz h
  · exact cmdTake_w k (.inr h1) s c b base vi vr w hs hlt hbz h

end Go.Proofs.YtelcmkccfjdmjaaGreatDoor

namespace Go.Proofs.YtelcmkccfjdmjaaGreatDoor
open Go Go.Proofs Go.RowKit Go.Shelf Go.Sort

/-- a command as a value -/
def CmV (W : World) (c : CmD) (v : List Value) : Prop := ∃ ai ci aq cq ag cg ak ck,
  v = [.string c.name, .slice ai c.ints.length ci, .int .u64 c.w, .slice aq c.rats.length cq, .int .i64 c.gn, .slice ag c.ge.length cg, .slice ak c.rank.length ck] ∧
    Cel W ai (c.ints.map encI) ∧ Cel W aq (flatP c.rats) ∧ Cel W ag (flat c.ge) ∧ Cel W ak (c.rank.map encI)
theorem CmV.go {W W' : World} {c : CmD} {v : List Value} (h : CmV W c v) (hb : Below W.heap.size W W') : CmV W' c v := by
  obtain ⟨ai, ci, aq, cq, ag, cg, ak, ck, e, h1, h2, h3, h4⟩ := h
  exact ⟨ai, ci, aq, cq, ag, cg, ak, ck, e, h1.go hb, h2.go hb, h3.go hb, h4.go hb⟩
/-- the rows of a command lie at a block or behind it -/
def CmVB (W : World) (k : Nat) (c : CmD) (v : List Value) : Prop := ∃ ai ci aq cq ag cg ak ck,
  v = [.string c.name, .slice ai c.ints.length ci, .int .u64 c.w, .slice aq c.rats.length cq, .int .i64 c.gn, .slice ag c.ge.length cg, .slice ak c.rank.length ck] ∧
    Cel W ai (c.ints.map encI) ∧ Cel W aq (flatP c.rats) ∧ Cel W ag (flat c.ge) ∧ Cel W ak (c.rank.map encI) ∧
    (∀ x, ai = some x → k ≤ x.block) ∧ (∀ x, aq = some x → k ≤ x.block) ∧ (∀ x, ag = some x → k ≤ x.block) ∧ (∀ x, ak = some x → k ≤ x.block)
theorem CmVB.cmv {W : World} {k : Nat} {c : CmD} {v : List Value} (h : CmVB W k c v) : CmV W c v := by
  obtain ⟨ai, ci, aq, cq, ag, cg, ak, ck, e, h1, h2, h3, h4, -⟩ := h
  exact ⟨ai, ci, aq, cq, ag, cg, ak, ck, e, h1, h2, h3, h4⟩
theorem far_nil (k : Nat) : ∀ x : Addr, none = some x → k ≤ x.block := fun x h => by cases h
/-- what is left of what stands behind a name -/
def RestPost (w : World) (b : Nat) (r : CmD × Int) (e : Ending) (w' : World) : Prop :=
  e = .returned (.tuple #[]) ∧ Below b w w' ∧ ∃ v, v.length = 7 ∧ PB w' b (v ++ [.int .i64 r.2]) ∧ (r.2 = 0 → CmVB w' b r.1 v)
theorem Cel.put {W : World} {ao : Option Addr} {cs : List Value} {b : Nat} (h : Cel W ao cs) (hn : ∀ x, ao = some x → x.block ≠ b) (j : Nat) (u : Value) : Cel (W.setCell ⟨b, j, none⟩ u) ao cs := by
  intro i v hv
  obtain ⟨c, o, e, hc⟩ := h i v hv
  refine ⟨c, o, e, ?_⟩
  have hne : c ≠ b := hn _ e
  rw [World.cell?_setCell_other _ _ _ _ (fun h => hne (congrArg Addr.block h).symm)]
  exact hc
/-- the reader ahead of it -/
def rd0 (nm : ByteArray) : List Value := rdL { cmd0 with name := nm } 0 (.slice none 0 0) (.slice none 0 0)

set_option maxRecDepth 100000 in
set_option maxHeartbeats 4000000 in
theorem cmdRest_load (tl : List ByteArray) (ao : Option Addr) (cap b : Nat) (w : World) (hl : tl.length ≤ 70000) (hsz : ∀ x ∈ tl, x.size ≤ 65536) (hc : Cel w ao (tl.map encS)) (hlt : b < w.heap.size) (h : PB w b (rd0 loadC)) :
    Calls Tryz.prog 73 #[.pointer (some ⟨b, 0, none⟩), .slice ao tl.length cap] w (RestPost w b (restC loadC tl)) := by
  have HG := Lib.hid (fun W (hb : Below w.heap.size w W) => GParse_own tl ao cap W (hc.go hb) (fun x hx => by have := hsz x hx; omega) (by omega))
  have hr : restC loadC tl = if (parseG tl).2.2 = 0 then ({ cmd0 with name := loadC, gn := (parseG tl).1.n, ge := (parseG tl).1.es }, 0) else (cmd0, (parseG tl).2.2) := if_pos rfl
  have HP := Lib.hid h
  rw [hr]
  clear hr hc h
  obtain ⟨nm, hnm⟩ : ∃ nm, nm = loadC := ⟨_, rfl⟩
  rw [← hnm] at HP ⊢
  have f0 : (nm.toList == ([76, 79, 65, 68] : List UInt8)) = true := (cm_byt (a := nm) (c := loadC) (l := [76, 79, 65, 68]) rfl).trans (decide_eq_true hnm)
  clear hnm
  generalize parseG tl = q at *
  obtain ⟨⟨gn, es⟩, k, f⟩ := q
  simp only at HG ⊢
  obtain ⟨p0, -⟩ := HP.out 0 _ rfl
  go_enter Tryz.func73, Tryz.ntmps73
  repeat go_step
  refine wp_scope_straight ?_
  go_wp2_with (go_at_call 114; refine (HG.out _ (Below.refl _ _)).mono ?_; rintro e w2 ⟨ao2, cap2, rfl, hc2, hb2, hf2⟩; (have HF2 := Lib.hid (show ∀ x, ao2 = some x → x.block ≠ b from fun x e => by have := hf2 x e; omega)); (have HF3 := Lib.hid (show ∀ x, ao2 = some x → b ≤ x.block from fun x e => by have := hf2 x e; omega)); clear hf2; (have HP2 := Lib.hid (HP.out.go hb2); have HC2 := Lib.hid hc2; have HB2 := Lib.hid hb2; clear hc2 hb2); obtain ⟨p4, q4⟩ := HP2.out 4 _ rfl; obtain ⟨p5, q5⟩ := HP2.out 5 _ rfl; obtain ⟨p7, q7⟩ := HP2.out 7 _ rfl)
  all_goals
    refine bodyPost_ret (results_none rfl _ _ _) rfl ?_
    refine ⟨rfl, (((HB2.out.mono (Nat.le_of_lt hlt)).setCell (Nat.le_refl _) _).setCell (Nat.le_refl _) _).setCell (Nat.le_refl _) _, [.string nm, .slice none 0 0, .int .u64 0, .slice none 0 0, .int .i64 gn, .slice ao2 es.length cap2, .slice none 0 0], rfl, ((HP2.out.set 4 _).set 5 _).set 7 _, ?_⟩
  · exact fun _ => ⟨none, 0, none, 0, ao2, cap2, none, 0, rfl, Cel.nil _ _, Cel.nil _ _, ((HC2.out.put HF2.out _ _).put HF2.out _ _).put HF2.out _ _, Cel.nil _ _, far_nil _, far_nil _, HF3.out, far_nil _⟩
  · exact fun h => absurd h (by assumption)

theorem restC_b0 : restC buildC [] = ({ cmd0 with name := buildC }, 0) := (if_neg (by decide)).trans (if_pos rfl)
theorem restC_b1 (x : ByteArray) : restC buildC [x] = if (rankP x).2 = 0 then ({ cmd0 with name := buildC, rank := (rankP x).1 }, 0) else (cmd0, (rankP x).2) := (if_neg (by decide)).trans (if_pos rfl)
theorem restC_b2 (x y : ByteArray) (t : List ByteArray) : restC buildC (x :: y :: t) = (cmd0, 3) := (if_neg (by decide)).trans (if_pos rfl)

set_option maxRecDepth 100000 in
set_option maxHeartbeats 4000000 in
theorem cmdRest_build (tl : List ByteArray) (ao : Option Addr) (cap b : Nat) (w : World) (hl : tl.length ≤ 70000) (hsz : ∀ x ∈ tl, x.size ≤ 65536) (hc : Cel w ao (tl.map encS)) (hlt : b < w.heap.size) (h : PB w b (rd0 buildC)) :
    Calls Tryz.prog 73 #[.pointer (some ⟨b, 0, none⟩), .slice ao tl.length cap] w (RestPost w b (restC buildC tl)) := by
  have HP := Lib.hid h
  have HC := Lib.hid hc
  clear hc h
  have E0 := Lib.hid restC_b0
  have E1 := Lib.hid restC_b1
  have E2 := Lib.hid restC_b2
  obtain ⟨nm, hnm⟩ : ∃ nm, nm = buildC := ⟨_, rfl⟩
  rw [← hnm] at HP E0 E1 E2 ⊢
  have f0 : (nm.toList == ([76, 79, 65, 68] : List UInt8)) = false := (cm_byt (a := nm) (c := loadC) (l := [76, 79, 65, 68]) rfl).trans (by rw [hnm]; decide)
  have f1 : (nm.toList == ([66, 85, 73, 76, 68] : List UInt8)) = true := (cm_byt (a := nm) (c := buildC) (l := [66, 85, 73, 76, 68]) rfl).trans (decide_eq_true hnm)
  clear hnm
  obtain ⟨p0, -⟩ := HP.out 0 _ rfl
  obtain ⟨p7, q7⟩ := HP.out 7 _ rfl
  match tl, hl, hsz, HC with
  | [], hl, hsz, HC =>
    rw [E0.out]
    go_enter Tryz.func73, Tryz.ntmps73
    repeat go_step
    refine wp_scope_straight ?_
    go_wp2
    refine bodyPost_ret (results_none rfl _ _ _) rfl ?_
    exact ⟨rfl, Below.refl _ _, [.string nm, .slice none 0 0, .int .u64 0, .slice none 0 0, .int .i64 0, .slice none 0 0, .slice none 0 0], rfl, HP.out, fun _ => ⟨none, 0, none, 0, none, 0, none, 0, rfl, Cel.nil _ _, Cel.nil _ _, Cel.nil _ _, Cel.nil _ _, far_nil _, far_nil _, far_nil _, far_nil _⟩⟩
  | [x], hl, hsz, HC =>
    have HRK := Lib.hid (fun W => rkParse_own x W (hsz x (by simp)))
    rw [E1.out]
    obtain ⟨b1, o1, rfl, hcell⟩ := HC.out.at (i := 0) (by simp)
    simp only [Nat.add_zero, List.getElem_cons_zero] at hcell
    generalize rankP x = q at *
    obtain ⟨rk, f⟩ := q
    simp only at HRK ⊢
    go_enter Tryz.func73, Tryz.ntmps73
    repeat go_step
    refine wp_scope_straight ?_
    go_wp2_with (go_at_call 115; refine (HRK.out _).mono ?_; rintro e w2 ⟨ao2, cap2, rfl, hc2, hb2, hf2⟩; (have HF2 := Lib.hid (show ∀ x, ao2 = some x → x.block ≠ b from fun x e => by have := hf2 x e; omega)); (have HF3 := Lib.hid (show ∀ x, ao2 = some x → b ≤ x.block from fun x e => by have := hf2 x e; omega)); clear hf2; (have HP2 := Lib.hid (HP.out.go hb2); have HC2 := Lib.hid hc2; have HB2 := Lib.hid hb2; clear hc2 hb2); obtain ⟨p6, q6⟩ := HP2.out 6 _ rfl; obtain ⟨r7, s7⟩ := HP2.out 7 _ rfl)
    all_goals
      refine bodyPost_ret (results_none rfl _ _ _) rfl ?_
      refine ⟨rfl, ((HB2.out.mono (Nat.le_of_lt hlt)).setCell (Nat.le_refl _) _).setCell (Nat.le_refl _) _, [.string nm, .slice none 0 0, .int .u64 0, .slice none 0 0, .int .i64 0, .slice none 0 0, .slice ao2 rk.length cap2], rfl, (HP2.out.set 6 _).set 7 _, ?_⟩
    · exact fun _ => ⟨none, 0, none, 0, none, 0, ao2, cap2, rfl, Cel.nil _ _, Cel.nil _ _, Cel.nil _ _, (HC2.out.put HF2.out _ _).put HF2.out _ _, far_nil _, far_nil _, far_nil _, HF3.out⟩
    · exact fun h => absurd h (by assumption)
  | x :: y :: t, hl, hsz, HC =>
    rw [E2.out]
    have hn0 : (((x :: y :: t).length : Int) == 0) = false := by simp; omega
    have hn1 : (((x :: y :: t).length : Int) == 1) = false := by simp; omega
    generalize (x :: y :: t).length = n at *
    go_enter Tryz.func73, Tryz.ntmps73
    repeat go_step
    refine wp_scope_straight ?_
    go_wp2
    refine bodyPost_ret (results_none rfl _ _ _) rfl ?_
    exact ⟨rfl, (Below.refl b w).setCell (p := ⟨b, 7, none⟩) (Nat.le_refl b) _, [.string nm, .slice none 0 0, .int .u64 0, .slice none 0 0, .int .i64 0, .slice none 0 0, .slice none 0 0], rfl, HP.out.set 7 _, fun h => by cases h⟩

end Go.Proofs.YtelcmkccfjdmjaaGreatDoor

namespace Go.Proofs.YtelcmkccfjdmjaaGreatDoor
open Go Go.Proofs Go.RowKit Go.Shelf Go.Sort

theorem foldC_ok {c : CmD} {ks : List UInt8} {tl : List ByteArray} {p : Nat} (h1 : p < ks.length) (h2 : p < tl.length) (h : tkF ks[p] tl[p] = 0) : foldC c (ks.drop p) (tl.drop p) = foldC (tkC ks[p] tl[p] c) (ks.drop (p + 1)) (tl.drop (p + 1)) := by
  rw [List.drop_eq_getElem_cons h1, List.drop_eq_getElem_cons h2, foldC, if_pos h]
theorem foldC_bad {c : CmD} {ks : List UInt8} {tl : List ByteArray} {p : Nat} (h1 : p < ks.length) (h2 : p < tl.length) (h : tkF ks[p] tl[p] ≠ 0) : foldC c (ks.drop p) (tl.drop p) = (cmd0, tkF ks[p] tl[p]) := by
  rw [List.drop_eq_getElem_cons h1, List.drop_eq_getElem_cons h2, foldC, if_neg h]
theorem foldC_end (c : CmD) (ks : List UInt8) (tl : List ByteArray) : foldC c (ks.drop ks.length) tl = (c, 0) := by
  rw [List.drop_length, foldC]
  intro k ks x xs h
  cases h
/-- nothing but words of kinds -/
def Bare (c : CmD) (p : Nat) : Prop := c.gn = 0 ∧ c.ge = [] ∧ c.rank = [] ∧ c.ints.length ≤ p ∧ c.rats.length ≤ p
theorem Bare.step {c : CmD} {p : Nat} (h : Bare c p) (k : UInt8) (x : ByteArray) : Bare (tkC k x c) (p + 1) := by
  obtain ⟨h1, h2, h3, h4, h5⟩ := h
  unfold tkC
  split
  · exact ⟨h1, h2, h3, by simp; omega, by simp; omega⟩
  · split
    · exact ⟨h1, h2, h3, by simp; omega, by simp; omega⟩
    · exact ⟨h1, h2, h3, by simp; omega, by simp; omega⟩
theorem owns_far {w : World} {base : Nat} {e : TypeId} {size n m c : Nat} {ao : Option Addr} {xs : List Value} (h : w.ownsRow base e size (.slice ao m c) n xs) : ∀ x, ao = some x → base ≤ x.block := by
  intro x hx
  subst hx
  exact (h.lt x.block rfl).1
theorem RdS.cmv {W : World} {b base : Nat} {c : CmD} {f : Int} {vi vr : Value} {p : Nat} (h : RdS W b base c f vi vr) (hz : Bare c p) (hb : b ≤ base) : ∃ v, v.length = 7 ∧ PB W b (v ++ [.int .i64 f]) ∧ CmVB W b c v := by
  obtain ⟨ai, ci, rfl, hi⟩ := Cel.of_owns h.oi
  obtain ⟨aq, cq, rfl, hq⟩ := Cel.of_owns h.oq
  obtain ⟨h1, h2, h3, -, -⟩ := hz
  refine ⟨[.string c.name, .slice ai c.ints.length ci, .int .u64 c.w, .slice aq c.rats.length cq, .int .i64 0, .slice none 0 0, .slice none 0 0], rfl, h.pb, ai, ci, aq, cq, none, 0, none, 0, ?_, hi, hq, by rw [h2]; exact Cel.nil _ _, by rw [h3]; exact Cel.nil _ _, fun x hx => Nat.le_trans hb (owns_far h.oi x hx), fun x hx => Nat.le_trans hb (owns_far h.oq x hx), far_nil _, far_nil _⟩
  rw [h1, h2, h3]
  rfl
theorem RdS.blk {W W' : World} {b base : Nat} {c : CmD} {f : Int} {vi vr : Value} (h : RdS W b base c f vi vr) (hb : W'.heap[b]? = W.heap[b]?) (hh : ∀ g, base ≤ g → W'.heap[g]? = W.heap[g]?) : RdS W' b base c f vi vr := by
  refine ⟨h.pb.eq hb, ⟨h.oi.1, ?_⟩, ⟨h.oq.1, ?_⟩, h.far⟩
  · rcases h.oi.2 with h2 | ⟨g, cap, cur, hv, hbg, hg, r⟩
    · exact .inl h2
    · exact .inr ⟨g, cap, cur, hv, hbg, by rw [hh g hbg]; exact hg, r⟩
  · rcases h.oq.2 with h2 | ⟨g, cap, cur, hv, hbg, hg, r⟩
    · exact .inl h2
    · exact .inr ⟨g, cap, cur, hv, hbg, by rw [hh g hbg]; exact hg, r⟩
theorem KP.le {b base base' : Nat} {W W' : World} (h : KP b base W W') (hl : base' ≤ base) : KP b base' W W' := ⟨h.1, fun k h1 h2 => h.2 k (by omega) h2⟩

set_option maxRecDepth 100000 in
set_option maxHeartbeats 4000000 in
theorem cmdRest_kinds (nm : ByteArray) (tl : List ByteArray) (ao : Option Addr) (cap b : Nat) (w : World) (hl : tl.length ≤ 70000) (hsz : ∀ x ∈ tl, x.size ≤ 65536) (hc : Cel w ao (tl.map encS)) (hnb : ∀ x, ao = some x → x.block ≠ b) (hlt : b < w.heap.size) (h : PB w b (rd0 nm))
    (hn1 : nm ≠ loadC) (hn2 : nm ≠ buildC) (hK : ∀ W, Calls Tryz.prog 116 #[.string nm, .int .i64 (tl.length : Int)] W (KindPost nm tl.length W))
    (hkk : ∀ k ∈ (kindsC nm tl.length).1.data.toList, isKind k) (hkz : (kindsC nm tl.length).2 = true → (kindsC nm tl.length).1.size = tl.length) :
    Calls Tryz.prog 73 #[.pointer (some ⟨b, 0, none⟩), .slice ao tl.length cap] w (RestPost w b (restC nm tl)) := by
  have hr : restC nm tl = if (kindsC nm tl.length).2 then foldC { cmd0 with name := nm } (kindsC nm tl.length).1.data.toList tl else (cmd0, 3) := by
    unfold restC
    rw [if_neg hn1, if_neg hn2]
  have f0 : (nm.toList == ([76, 79, 65, 68] : List UInt8)) = false := (cm_byt (a := nm) (c := loadC) (l := [76, 79, 65, 68]) rfl).trans (decide_eq_false hn1)
  have f1 : (nm.toList == ([66, 85, 73, 76, 68] : List UInt8)) = false := (cm_byt (a := nm) (c := buildC) (l := [66, 85, 73, 76, 68]) rfl).trans (decide_eq_false hn2)
  unfold KindPost at hK
  rw [hr]
  clear hr hn1 hn2
  generalize kindsC nm tl.length = q at *
  obtain ⟨ks, is⟩ := q
  simp only at hK hkk hkz ⊢
  have HK := Lib.hid hK
  have HP := Lib.hid h
  have HC := Lib.hid hc
  have HN := Lib.hid hnb
  have HKK := Lib.hid hkk
  have HSZ := Lib.hid hsz
  obtain ⟨p0, -⟩ := HP.out 0 _ rfl
  clear hK h hc hnb hkk hsz
  cases is with
  | false =>
    simp only [Bool.false_eq_true, if_false]
    clear hkz
    go_enter Tryz.func73, Tryz.ntmps73
    repeat go_step
    refine wp_scope_straight ?_
    go_wp2_with (go_at_call 116; refine (HK.out _).mono ?_; rintro e w2 ⟨s, rfl, -, hb2⟩; (have HP2 := Lib.hid (HP.out.go hb2); have HB2 := Lib.hid hb2; clear hb2); obtain ⟨r7, s7⟩ := HP2.out 7 _ rfl)
    refine bodyPost_ret (results_none rfl _ _ _) rfl ?_
    exact ⟨rfl, (HB2.out.mono (Nat.le_of_lt hlt)).setCell (p := ⟨b, 7, none⟩) (Nat.le_refl b) _, [.string nm, .slice none 0 0, .int .u64 0, .slice none 0 0, .int .i64 0, .slice none 0 0, .slice none 0 0], rfl, HP2.out.set 7 _, fun h => by cases h⟩
  | true =>
    simp only [if_true]
    have hz := hkz rfl
    clear hkz
    go_enter Tryz.func73, Tryz.ntmps73
    repeat go_step
    refine wp_scope_straight ?_
    go_wp2_with (go_at_call 116; refine (HK.out _).mono ?_; rintro e w2 ⟨s, rfl, hs, hb2⟩; (obtain rfl := hs rfl); (have HP2 := Lib.hid (HP.out.go hb2); have HC2 := Lib.hid (HC.out.go hb2); have HB2 := Lib.hid hb2; clear hb2 hs))
    go_step3
    go_wp2
    obtain ⟨WL, hWL⟩ : ∃ WL, WL = w2.iter s 0 := ⟨_, rfl⟩
    have hbl : Below w2.heap.size w2 WL := by rw [hWL]; exact Below.of_al _ _
    have HIT := Lib.hid (show WL.heap[w2.heap.size]? = some (.stringIter s 0) by rw [hWL]; exact heap_alloc_last w2 _)
    have HZ := Lib.hid (show WL.heap.size = w2.heap.size + 1 by rw [hWL]; exact (show (w2.alloc (.stringIter s 0)).heap.size = _ by simp))
    have HP3 := Lib.hid (HP2.out.go hbl)
    have HC3 := Lib.hid (HC2.out.go hbl)
    have HB3 := Lib.hid (HB2.out.st hbl)
    have HL2 := Lib.hid (show w.heap.size ≤ w2.heap.size from HB2.out.size)
    rw [← hWL]
    clear hWL hbl HP2 HC2 HB2
    have hbase : b < w2.heap.size + 1 := by have := HL2.out; omega
    generalize w2.heap.size = K at *
    have HCL := Lib.hid (fun wr p (hp : p < tl.length) (hk : KP b K WL wr) => (by
      obtain ⟨b1, o1, e1, hcell⟩ := HC.out.at hp
      have hb1 : b1 < w.heap.size := World.block_lt_of_cell? _ _ hcell
      have := HL2.out
      refine ⟨b1, o1, e1, (World.cell?_of_block (w := w) (((hk.2 b1 (by omega) (HN.out _ e1))).trans (HB3.out.block b1 hb1))).trans hcell⟩ : ∃ b1 o1, ao = some ⟨b1, o1, none⟩ ∧ wr.cell? ⟨b1, o1 + p, none⟩ = some (encS tl[p])))
    have HR0 := Lib.hid (show RdS WL b (K + 1) { cmd0 with name := nm } 0 (.slice none 0 0) (.slice none 0 0) from ⟨HP3.out, World.ownsRow_nil _ _ _ _, World.ownsRow_nil _ _ _ _, fun k h => by cases h⟩)
    have hzl : s.data.toList.length = tl.length := by rw [← hz]; rfl
    have HSA := Lib.hid (fun p (hp : p < s.size) => (show s[p] = s.data.toList[p]'(by rw [hzl, ← hz]; exact hp) from by simp; rfl))
    have HF0 := Lib.hid (show foldC { cmd0 with name := nm } s.data.toList tl = foldC { cmd0 with name := nm } (s.data.toList.drop 0) (tl.drop 0) by rw [List.drop_zero, List.drop_zero])
    have HB0 := Lib.hid (show Bare { cmd0 with name := nm } 0 from ⟨rfl, rfl, rfl, Nat.le_refl _, Nat.le_refl _⟩)
    generalize foldC { cmd0 with name := nm } s.data.toList tl = r at *
    generalize s.data.toList = L at *
    generalize ({ cmd0 with name := nm } : CmD) = c0 at *
    go_loopg [7, 8] tl.length (fun g v7 v8 wr => ∃ (p : Nat) (c : CmD) (vi vr : Value), p ≤ tl.length ∧ tl.length - p ≤ g ∧ Aside (wr.heap[K]? = some (.stringIter s p)) ∧ Aside (RdS wr b (K + 1) c 0 vi vr) ∧ Aside (KP b K WL wr) ∧ Aside (K + 1 ≤ wr.heap.size) ∧ Aside (Bare c p) ∧ Aside (r = foldC c (L.drop p) (tl.drop p)))
    case atStart => exact ⟨0, c0, _, _, Nat.zero_le _, by omega, HIT.out, HR0.out, KP.refl _ _ _, (show K + 1 ≤ WL.heap.size by have := HZ.out; omega), HB0.out, HF0.out⟩
    case round =>
      obtain ⟨p, c, vi, vr, hp, hg, HI, HR, HKP, HS, HBA, HF⟩ := hrel
      by_cases hlt2 : p < tl.length
      · have hlt3 : (p : Int) < (tl.length : Int) := by omega
        have hp0 : (0 : Int) ≤ (p : Int) := by omega
        have hps : p < s.size := by omega
        have hpL : p < L.length := by omega
        have hke : s[p] = L[p] := HSA.out p hps
        have hk := HKK.out L[p] (List.getElem_mem hpL)
        have ha : (s[p]).toNat < 128 := by
          rw [hke]
          rcases hk with h | h | h | h | h | h | h <;> rw [h] <;> decide
        have hnx := fun ty => Lib.run_next_ascii_at (P := Tryz.prog) wr K s p ty HI.out hps ha
        rw [hke] at hnx
        have HBAD := Lib.hid (fun h => HF.out.trans (foldC_bad (c := c) hpL hlt2 h))
        have HOK := Lib.hid (fun h => HF.out.trans (foldC_ok (c := c) hpL hlt2 h))
        have HST := Lib.hid (HBA.out.step L[p] tl[p])
        have HX := Lib.hid (HSZ.out tl[p] (List.getElem_mem hlt2))
        obtain ⟨W4, hW4⟩ : ∃ W4, W4 = wr.iterAt K s (p + 1) := ⟨_, rfl⟩
        have HI4 := Lib.hid (show W4.heap[K]? = some (.stringIter s (p + 1)) by rw [hW4]; exact Lib.iterAt_heap wr K s p (p + 1) HI.out)
        have HLO4 := Lib.hid (show Below K wr W4 by rw [hW4]; exact Lib.below_iterAt (Below.refl _ _) (Nat.le_refl _) s (p + 1))
        have HLK := Lib.hid (show ∀ j, j ≠ K → W4.heap[j]? = wr.heap[j]? by rw [hW4]; exact fun j h => Lib.iterAt_other wr K j s (p + 1) h)
        have HZ4 := Lib.hid (show W4.heap.size = wr.heap.size by rw [hW4]; exact Lib.iterAt_size _ _ _ _)
        rw [← hW4] at hnx
        clear hW4
        have hbK : b < K := by have := HL2.out; omega
        have HR4 := Lib.hid (HR.out.blk (HLK.out b (by omega)) (fun g hg => HLK.out g (by omega)))
        have HKP4 := Lib.hid (HKP.out.low hbK HLO4.out)
        obtain ⟨b1, o1, hao, hcell⟩ := HCL.out W4 p hlt2 HKP4.out
        subst hao
        have HT := Lib.hid (cmdTake_any L[p] hk tl[p] c b (K + 1) vi vr W4 HX.out (by have := HBA.out.2.2.2.1; omega) (by have := HBA.out.2.2.2.2; omega) hbase (by have := HS.out; have := HZ4.out; omega) HR4.out)
        unfold TakePostC at HT
        have hz4 := HZ4.out
        have hs4 := HS.out
        clear HLK HLO4 HR HKP HS HZ4 hke HBA HF HR4 HX HP3 HC3
        generalize tkC L[p] tl[p] c = c2 at *
        generalize tkF L[p] tl[p] = f at *
        generalize L[p] = kd at *
        generalize tl[p] = x at *
        have HE4 := Lib.hid (fun w5 (h : KP b (K + 1) W4 w5) => (show w5.heap[K]? = some (.stringIter s (p + 1)) ∧ KP b K WL w5 ∧ K + 1 ≤ w5.heap.size from ⟨(h.2 K (by omega) (by omega)).trans HI4.out, HKP4.out.trans (h.le (by omega)), by have := h.1.size; omega⟩))
        by_cases hf : f = 0
        · have HOK2 := Lib.hid (HOK.out hf)
          subst hf
          clear HBAD HOK
          go_wp2_with (go_at_call 117; refine HT.out.mono ?_; rintro e w5 ⟨rfl, ⟨vi5, vr5, hr5⟩, hk5⟩; (have HR5 := Lib.hid hr5; have HK5 := Lib.hid (HE4.out _ hk5); clear hr5 hk5); obtain ⟨p7, q7⟩ := HR5.out.pb 7 _ rfl)
          go_roundg (tl.length - (p + 1))
          case measure => omega
          case rel => exact ⟨p + 1, c2, vi5, vr5, by omega, by omega, HK5.out.1, HR5.out, HK5.out.2.1, HK5.out.2.2, HST.out, HOK2.out⟩
        · have HBAD2 := Lib.hid (HBAD.out hf)
          have hf2 : (f != 0) = true := by simpa using hf
          clear HBAD HOK
          go_wp2_with (go_at_call 117; refine HT.out.mono ?_; rintro e w5 ⟨rfl, ⟨vi5, vr5, hr5⟩, hk5⟩; (have HR5 := Lib.hid hr5; have HK5 := Lib.hid (HE4.out _ hk5); clear hr5 hk5); obtain ⟨p7, q7⟩ := HR5.out.pb 7 _ rfl)
          refine bodyPost_end (results_none rfl _ _ _) rfl ?_
          obtain ⟨v, h7, hpb, -⟩ := HR5.out.cmv HST.out (by omega)
          rw [HBAD2.out]
          exact ⟨rfl, (HB3.out.mono (Nat.le_of_lt hlt)).trans HK5.out.2.1.1, v, h7, hpb, fun h => absurd h hf⟩
      · obtain rfl : p = tl.length := by omega
        have hnx := fun ty => Lib.run_next_end_at (P := Tryz.prog) wr K s tl.length ty HI.out (by omega)
        go_wp2
        refine bodyPost_end (results_none rfl _ _ _) rfl ?_
        have e := HF.out
        rw [← hzl, foldC_end] at e
        obtain ⟨v, h7, hpb, hcv⟩ := HR.out.cmv HBA.out (by omega)
        rw [e]
        exact ⟨rfl, (HB3.out.mono (Nat.le_of_lt hlt)).trans HKP.out.1, v, h7, hpb, fun _ => hcv⟩

end Go.Proofs.YtelcmkccfjdmjaaGreatDoor

namespace Go.Proofs.YtelcmkccfjdmjaaGreatDoor
open Go Go.Proofs Go.RowKit Go.Shelf Go.Sort

/-- the kinds behind a name, told by both -/
def KindsBoth (nm : ByteArray) (n : Nat) : Prop :=
  (∀ W, Calls Tryz.prog 116 #[.string nm, .int .i64 (n : Int)] W (KindPost nm n W)) ∧ (∀ W, Calls Tryz.prog 110 #[.string nm, .int .i64 (n : Int)] W (KindPost nm n W)) ∧
    (∀ k ∈ (kindsC nm n).1.data.toList, isKind k) ∧ ((kindsC nm n).2 = true → (kindsC nm n).1.size = n)
theorem KindsBoth.of {nm kd : ByteArray} {n : Nat} (k : Nat) (hn : n ≤ 100000) (hk : k < formL.length) (hat : formL[k] = (nm, kd)) (hne : nm ≠ tourC) (hi : idxI (fun p : FmP => decide (p.1 = nm)) formL = (k : Int)) (hf : formL.find? (fun p => decide (p.1 = nm)) = some (nm, kd)) (hkz : kd.size ≤ 10)
    (hkk : ∀ k ∈ kd.data.toList, isKind k) (hr : ∀ W, Calls Tryz.prog 110 #[.string nm, .int .i64 (n : Int)] W (KindPost nm n W)) : KindsBoth nm n := by
  refine ⟨fun W => cmdKinds_form nm kd k n W hn hk hat hne hi hf hkz, hr, ?_, ?_⟩
  · rw [kindsC_form hne hf]
    exact hkk
  · rw [kindsC_form hne hf]
    exact fun h => of_decide_eq_true h
theorem isNm_cases {nm : ByteArray} (h : isNm nm = true) : nm ∈ nameL := by
  obtain ⟨x, hx, e⟩ := List.any_eq_true.1 h
  have e := of_decide_eq_true e
  subst e
  exact hx
theorem kindsBoth_any {nm : ByteArray} {n : Nat} (h : isNm nm = true) (h1 : nm ≠ loadC) (h2 : nm ≠ buildC) (hn : n ≤ 100000) : KindsBoth nm n := by
  have hx := isNm_cases h
  simp only [nameL, formL, List.map_cons, List.map_nil, List.mem_cons, List.not_mem_nil, or_false] at hx
  rcases hx with rfl | rfl | rfl | rfl | rfl | rfl | rfl | rfl | rfl | rfl | rfl | rfl | rfl
  · exact absurd rfl h1
  · exact absurd rfl h2
  · exact .of 2 hn (by decide) rfl (by decide) (by decide) (by decide) (by decide) (by unfold isKind; decide) (fun W => refKinds_ROUTE n W hn)
  · exact .of 3 hn (by decide) rfl (by decide) (by decide) (by decide) (by decide) (by unfold isKind; decide) (fun W => refKinds_DIST n W hn)
  · exact .of 4 hn (by decide) rfl (by decide) (by decide) (by decide) (by decide) (by unfold isKind; decide) (fun W => refKinds_ALT n W hn)
  · exact .of 5 hn (by decide) rfl (by decide) (by decide) (by decide) (by decide) (by unfold isKind; decide) (fun W => refKinds_KSP n W hn)
  · exact .of 6 hn (by decide) rfl (by decide) (by decide) (by decide) (by decide) (by unfold isKind; decide) (fun W => refKinds_PEN n W hn)
  · exact .of 7 hn (by decide) rfl (by decide) (by decide) (by decide) (by decide) (by unfold isKind; decide) (fun W => refKinds_SETW n W hn)
  · exact .of 8 hn (by decide) rfl (by decide) (by decide) (by decide) (by decide) (by unfold isKind; decide) (fun W => refKinds_NEAR n W hn)
  · have hk : kindsC tourC n = (cb (List.replicate n 110), decide (2 ≤ n) && decide (n ≤ 20)) := if_pos rfl
    refine ⟨fun W => cmdKinds_tour n W hn, fun W => refKinds_TOUR n W hn, ?_, ?_⟩
    · rw [show cb [84, 79, 85, 82] = tourC from rfl, hk]
      intro k h
      exact .inl (List.eq_of_mem_replicate h)
    · rw [show cb [84, 79, 85, 82] = tourC from rfl, hk]
      exact fun _ => tourF_size n
  · exact .of 10 hn (by decide) rfl (by decide) (by decide) (by decide) (by decide) (by unfold isKind; decide) (fun W => refKinds_STAT n W hn)
  · exact .of 11 hn (by decide) rfl (by decide) (by decide) (by decide) (by decide) (by unfold isKind; decide) (fun W => refKinds_DUMP n W hn)
  · exact .of 12 hn (by decide) rfl (by decide) (by decide) (by decide) (by decide) (by unfold isKind; decide) (fun W => refKinds_QUIT n W hn)

theorem cmdRest_any (nm : ByteArray) (h : isNm nm = true) (tl : List ByteArray) (ao : Option Addr) (cap b : Nat) (w : World) (hl : tl.length ≤ 70000) (hsz : ∀ x ∈ tl, x.size ≤ 65536) (hc : Cel w ao (tl.map encS)) (hnb : ∀ x, ao = some x → x.block ≠ b) (hlt : b < w.heap.size) (hp : PB w b (rd0 nm)) :
    Calls Tryz.prog 73 #[.pointer (some ⟨b, 0, none⟩), .slice ao tl.length cap] w (RestPost w b (restC nm tl)) := by
  by_cases h1 : nm = loadC
  · subst h1
    exact cmdRest_load tl ao cap b w hl hsz hc hlt hp
  · by_cases h2 : nm = buildC
    · subst h2
      exact cmdRest_build tl ao cap b w hl hsz hc hlt hp
    · obtain ⟨k1, -, k3, k4⟩ := kindsBoth_any (n := tl.length) h h1 h2 (by omega)
      exact cmdRest_kinds nm tl ao cap b w hl hsz hc hnb hlt hp h1 h2 k1 k3 k4

end Go.Proofs.YtelcmkccfjdmjaaGreatDoor
