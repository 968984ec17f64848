/-
  The reader of package cmd in the machine's memory, and its walks: a number, a word of a kind.
  Walk of package cmd: a word that is a ratio.
-/
import Derived.Test.YtelcmkccfjdmjaaDoorProg
import Derived.Test.YtelcmkccfjdmjaaDoorCmC
import Derived.Test.YtelcmkccfjdmjaaDoorRatioE
import Derived.Deep.RegionLaw
namespace Go.Proofs.YtelcmkccfjdmjaaDoor
open Go Go.Proofs Go.RowKit Go.Shelf Go.Sort

/-- a block of cells that may be written -/
def PB (W : World) (b : Nat) (xs : List Value) : Prop := ∀ (i : Nat) (x : Value), xs[i]? = some x → W.cell? ⟨b, i, none⟩ = some x ∧ W.frozen? ⟨b, i, none⟩ = false
theorem PB.eq {W W' : World} {b : Nat} {xs : List Value} (h : PB W b xs) (he : W'.heap[b]? = W.heap[b]?) : PB W' b xs := fun i x hx =>
  ⟨(World.cell?_of_block (a := ⟨b, i, none⟩) he).trans (h i x hx).1, (World.frozen?_of_block (a := ⟨b, i, none⟩) he).trans (h i x hx).2⟩
theorem PB.lt {W : World} {b : Nat} {x : Value} {xs : List Value} (h : PB W b (x :: xs)) : b < W.heap.size := World.block_lt_of_cell? _ _ (h 0 x rfl).1
theorem PB.go {W W' : World} {b : Nat} {x : Value} {xs : List Value} (h : PB W b (x :: xs)) (hb : Below W.heap.size W W') : PB W' b (x :: xs) := h.eq (hb.block b h.lt)
theorem PB.setAt {W : World} {b c j : Nat} {xs : List Value} (h : PB W b xs) (hn : c ≠ b) (u : Value) : PB (W.setCell ⟨c, j, none⟩ u) b xs := h.eq (Below.heap_setCell _ _ _ _ (Ne.symm hn))
theorem PB.set {W : World} {b : Nat} {xs : List Value} (h : PB W b xs) (j : Nat) (u : Value) : PB (W.setCell ⟨b, j, none⟩ u) b (xs.set j u) := by
  intro i x hx
  rw [World.frozen?_setCell]
  by_cases e : i = j
  · subst e
    have hlt : i < xs.length := by
      have := (List.getElem?_eq_some_iff.1 hx).1
      simpa using this
    rw [List.getElem?_set_self hlt] at hx
    cases hx
    obtain ⟨h1, h2⟩ := h i xs[i] (List.getElem?_eq_getElem hlt)
    exact ⟨World.cell?_setCell_same _ _ _ h1, h2⟩
  · rw [List.getElem?_set_ne (Ne.symm e)] at hx
    obtain ⟨h1, h2⟩ := h i x hx
    exact ⟨by rw [World.cell?_setCell_other _ _ _ _ (by simp; try omega)]; exact h1, h2⟩

/-- what lies below base stays, but for one block -/
def KP (b base : Nat) (W W' : World) : Prop := Below b W W' ∧ ∀ k, k < base → k ≠ b → W'.heap[k]? = W.heap[k]?
theorem KP.refl (b base : Nat) (W : World) : KP b base W W := ⟨Below.refl _ _, fun _ _ _ => rfl⟩
theorem KP.low {b base : Nat} {W A C : World} (h : KP b base W A) (hlt : b < base) (hb : Below base A C) : KP b base W C :=
  ⟨h.1.trans (hb.mono (by omega)), fun k h1 h2 => (hb.block k h1).trans (h.2 k h1 h2)⟩
theorem KP.go {b base : Nat} {W A C : World} (h : KP b base W A) (hlt : b < base) (hz : base ≤ A.heap.size) (hb : Below A.heap.size A C) : KP b base W C := h.low hlt (hb.mono hz)
theorem KP.put {b base : Nat} {W A : World} (h : KP b base W A) (j : Nat) (u : Value) : KP b base W (A.setCell ⟨b, j, none⟩ u) :=
  ⟨h.1.setCell (Nat.le_refl _) _, fun k h1 h2 => (Below.heap_setCell _ _ _ _ h2).trans (h.2 k h1 h2)⟩
theorem KP.trans {b base : Nat} {W A C : World} (h : KP b base W A) (k : KP b base A C) : KP b base W C := ⟨h.1.trans k.1, fun j h1 h2 => (k.2 j h1 h2).trans (h.2 j h1 h2)⟩

def flatP : List (Int × Int) → List Value
  | [] => []
  | p :: l => .int .u64 p.1 :: .int .u64 p.2 :: flatP l
theorem flatP_snoc : ∀ (l : List (Int × Int)) (p : Int × Int), flatP (l ++ [p]) = flatP l ++ [.int .u64 p.1, .int .u64 p.2]
  | [], p => rfl
  | q :: l, p => by rw [List.cons_append, flatP, flatP, flatP_snoc l p]; rfl

/-- the reader's block -/
def rdL (c : CmD) (f : Int) (vi vr : Value) : List Value := [.string c.name, vi, .int .u64 c.w, vr, .int .i64 0, .slice none 0 0, .slice none 0 0, .int .i64 f]
structure RdS (W : World) (b base : Nat) (c : CmD) (f : Int) (vi vr : Value) : Prop where
  pb : PB W b (rdL c f vi vr)
  oi : W.ownsRow base 3 1 vi c.ints.length (c.ints.map encI)
  oq : W.ownsRow base 68 2 vr c.rats.length (flatP c.rats)
  far : ∀ k, vi.ownBlock = some k → vr.ownBlock ≠ some k
theorem RdS.go {W W' : World} {b base : Nat} {c : CmD} {f : Int} {vi vr : Value} (h : RdS W b base c f vi vr) (hb : Below W.heap.size W W') : RdS W' b base c f vi vr :=
  ⟨h.pb.go hb, cm_owns_go h.oi hb, cm_owns_go h.oq hb, h.far⟩
theorem RdS.int {W W' : World} {b base : Nat} {c : CmD} {f f' x : Int} {vi vr : Value} {g cap : Nat} (h : RdS W b base c f vi vr) (hlt : b < base) (ho : W'.ownsRow base 3 1 (.slice (some ⟨g, 0, none⟩) (c.ints.length + 1) cap) (c.ints.length + 1) (c.ints.map encI ++ [.int .i64 x]))
    (hg : W.grownBy W' vi.ownBlock) (hat : vi.ownBlock = some g ∨ g = W.heap.size) :
    RdS ((W'.setCell ⟨b, 1, none⟩ (.slice (some ⟨g, 0, none⟩) (c.ints.length + 1) cap)).setCell ⟨b, 7, none⟩ (.int .i64 f')) b base { c with ints := c.ints ++ [x] } f' (.slice (some ⟨g, 0, none⟩) (c.ints.length + 1) cap) vr := by
  have hp : PB W' b (rdL c f vi vr) := h.pb.eq (hg.block b h.pb.lt (fun e => by have := (h.oi.lt b e.symm).1; omega))
  refine ⟨(hp.set 1 _).set 7 _, ?_, ?_, ?_⟩
  · rw [show (c.ints ++ [x]).length = c.ints.length + 1 by simp, List.map_append]
    exact ownsRow_setCell_below (ownsRow_setCell_below ho (a := ⟨b, 1, none⟩) hlt _) (a := ⟨b, 7, none⟩) hlt _
  · refine ownsRow_setCell_below (ownsRow_setCell_below (h.oq.kept hg ?_) (a := ⟨b, 1, none⟩) hlt _) (a := ⟨b, 7, none⟩) hlt _
    cases hv : vr.ownBlock with
    | none => exact .inl rfl
    | some k => exact .inr (fun e => h.far k e.symm hv)
  · intro k hk
    cases hk
    rcases hat with e | e
    · exact h.far _ e
    · intro e2
      have h9 : g < W.heap.size := (h.oq.lt _ e2).2
      omega

def numF (lo hi : Int) (s : ByteArray) : Int := if (intI s hi).2 = 0 ∧ (intI s hi).1 < lo then 2 else (intI s hi).2

theorem cm_elemi : Elem Tryd.prog 3 (.int .i64 0) 1 8 := ⟨by kernel_rfl, rfl, by decide⟩
theorem cm_onei (n : Int) : ∀ u ∈ [Value.int .i64 n], u.oneCell' = true := by
  intro u hu
  rw [List.mem_singleton] at hu
  subst hu
  rfl

set_option maxRecDepth 100000 in
set_option maxHeartbeats 4000000 in
theorem number_any (s : ByteArray) (lo hi : Int) (c : CmD) (f0 : Int) (b base : Nat) (vi vr : Value) (w : World) (hs : s.size ≤ 2000) (hhi : 0 ≤ hi ∧ hi ≤ 100000) (hc : c.ints.length ≤ 1000000) (hlt : b < base) (hbz : base ≤ w.heap.size) (h : RdS w b base c f0 vi vr) :
    Calls Tryd.prog 87 #[.pointer (some ⟨b, 0, none⟩), .string s, .int .i64 lo, .int .i64 hi] w fun e w' => e = .returned (.tuple #[]) ∧ (∃ vi', RdS w' b base { c with ints := c.ints ++ [(intI s hi).1] } (numF lo hi s) vi' vr) ∧ KP b base w w' := by
  have HI := Lib.hid (fun W => Int_any s hi W (by omega) (by omega))
  have HR := Lib.hid h
  obtain ⟨ao, cap, rfl, -⟩ := Cel.of_owns h.oi
  unfold numF
  generalize intI s hi = q at *
  obtain ⟨n, f⟩ := q
  simp only at HI ⊢
  clear h
  by_cases hf : f = 0
  · subst hf
    by_cases hn : n < lo
    · rw [if_pos ⟨rfl, hn⟩]
      go_enter Tryd.func87, Tryd.ntmps87
      go_wp2_with (first
        | (go_at_call 39; refine (HI.out _).mono ?_; rintro e w1 ⟨rfl, hb1⟩; (have HR1 := Lib.hid (HR.out.go hb1); have HB1 := Lib.hid ((KP.refl b base w).go hlt hbz hb1); have hz1 := hb1.size; clear hb1); obtain ⟨p1, q1⟩ := HR1.out.pb 1 _ rfl; obtain ⟨p7, q7⟩ := HR1.out.pb 7 _ rfl)
        | (at_builtin; go_must ((with_reducible refine wpList_app base 3 _ 1 8 cm_elemi Tryd.underlying23 (.slice ao c.ints.length cap) c.ints.length _ ⟨w1.heap.size, 0, none⟩ 1 1 [.int .i64 n] ?_ ?_ (HR1.out.oi.alloc _) (cm_one_at _ _ _ rfl) (cm_onei _) ⟨rfl, by decide, by omega, by omega, by simp; omega⟩ ?_); (· rfl); (· rfl); intro g6 cap6 w6 hown hgrow hbl hat hlt6; (have HR6 := Lib.hid (fun f' => (HR1.out.go (Below.of_al w1 (Obj.cells #[.int .i64 n] 3))).int (f' := f') hlt hown hgrow hat); have HP6 := Lib.hid ((HR1.out.go (Below.of_al w1 (Obj.cells #[.int .i64 n] 3))).pb.eq (hgrow.block b (by simp; omega) (fun e => by have := (HR1.out.oi.lt b e.symm).1; omega))); have HB6 := Lib.hid ((HB1.out.go hlt (by omega) (Below.of_al _ _)).low hlt hbl); clear hown hgrow hbl hat); obtain ⟨p1, q1⟩ := HP6.out 1 _ rfl; obtain ⟨p7, q7⟩ := HP6.out 7 _ rfl)))
      (try simp only [Exit.inBlock, Exit.then])
      first | refine bodyPost_ret (results_none rfl _ _ _) rfl ?_ | refine bodyPost_end (results_none rfl _ _ _) rfl ?_
      exact ⟨rfl, ⟨_, HR6.out 2⟩, (HB6.out.put _ _).put _ _⟩
    · rw [if_neg (fun hh => hn hh.2)]
      go_enter Tryd.func87, Tryd.ntmps87
      go_wp2_with (first
        | (go_at_call 39; refine (HI.out _).mono ?_; rintro e w1 ⟨rfl, hb1⟩; (have HR1 := Lib.hid (HR.out.go hb1); have HB1 := Lib.hid ((KP.refl b base w).go hlt hbz hb1); have hz1 := hb1.size; clear hb1); obtain ⟨p1, q1⟩ := HR1.out.pb 1 _ rfl; obtain ⟨p7, q7⟩ := HR1.out.pb 7 _ rfl)
        | (at_builtin; go_must ((with_reducible refine wpList_app base 3 _ 1 8 cm_elemi Tryd.underlying23 (.slice ao c.ints.length cap) c.ints.length _ ⟨w1.heap.size, 0, none⟩ 1 1 [.int .i64 n] ?_ ?_ (HR1.out.oi.alloc _) (cm_one_at _ _ _ rfl) (cm_onei _) ⟨rfl, by decide, by omega, by omega, by simp; omega⟩ ?_); (· rfl); (· rfl); intro g6 cap6 w6 hown hgrow hbl hat hlt6; (have HR6 := Lib.hid (fun f' => (HR1.out.go (Below.of_al w1 (Obj.cells #[.int .i64 n] 3))).int (f' := f') hlt hown hgrow hat); have HP6 := Lib.hid ((HR1.out.go (Below.of_al w1 (Obj.cells #[.int .i64 n] 3))).pb.eq (hgrow.block b (by simp; omega) (fun e => by have := (HR1.out.oi.lt b e.symm).1; omega))); have HB6 := Lib.hid ((HB1.out.go hlt (by omega) (Below.of_al _ _)).low hlt hbl); clear hown hgrow hbl hat); obtain ⟨p1, q1⟩ := HP6.out 1 _ rfl; obtain ⟨p7, q7⟩ := HP6.out 7 _ rfl)))
      (try simp only [Exit.inBlock, Exit.then])
      first | refine bodyPost_ret (results_none rfl _ _ _) rfl ?_ | refine bodyPost_end (results_none rfl _ _ _) rfl ?_
      exact ⟨rfl, ⟨_, HR6.out 0⟩, (HB6.out.put _ _).put _ _⟩
  · have hf2 : (f == 0) = false := by simpa using hf
    rw [if_neg (fun hh => hf hh.1)]
    clear hf
    go_enter Tryd.func87, Tryd.ntmps87
    go_wp2_with (first
      | (go_at_call 39; refine (HI.out _).mono ?_; rintro e w1 ⟨rfl, hb1⟩; (have HR1 := Lib.hid (HR.out.go hb1); have HB1 := Lib.hid ((KP.refl b base w).go hlt hbz hb1); have hz1 := hb1.size; clear hb1); obtain ⟨p1, q1⟩ := HR1.out.pb 1 _ rfl; obtain ⟨p7, q7⟩ := HR1.out.pb 7 _ rfl)
      | (at_builtin; go_must ((with_reducible refine wpList_app base 3 _ 1 8 cm_elemi Tryd.underlying23 (.slice ao c.ints.length cap) c.ints.length _ ⟨w1.heap.size, 0, none⟩ 1 1 [.int .i64 n] ?_ ?_ (HR1.out.oi.alloc _) (cm_one_at _ _ _ rfl) (cm_onei _) ⟨rfl, by decide, by omega, by omega, by simp; omega⟩ ?_); (· rfl); (· rfl); intro g6 cap6 w6 hown hgrow hbl hat hlt6; (have HR6 := Lib.hid (fun f' => (HR1.out.go (Below.of_al w1 (Obj.cells #[.int .i64 n] 3))).int (f' := f') hlt hown hgrow hat); have HP6 := Lib.hid ((HR1.out.go (Below.of_al w1 (Obj.cells #[.int .i64 n] 3))).pb.eq (hgrow.block b (by simp; omega) (fun e => by have := (HR1.out.oi.lt b e.symm).1; omega))); have HB6 := Lib.hid ((HB1.out.go hlt (by omega) (Below.of_al _ _)).low hlt hbl); clear hown hgrow hbl hat); obtain ⟨p1, q1⟩ := HP6.out 1 _ rfl; obtain ⟨p7, q7⟩ := HP6.out 7 _ rfl)))
    (try simp only [Exit.inBlock, Exit.then])
    first | refine bodyPost_ret (results_none rfl _ _ _) rfl ?_ | refine bodyPost_end (results_none rfl _ _ _) rfl ?_
    exact ⟨rfl, ⟨_, HR6.out f⟩, (HB6.out.put _ _).put _ _⟩

/-- what a word of a kind leaves in the reader -/
def TakePostC (w : World) (b base : Nat) (k : UInt8) (s : ByteArray) (c : CmD) (e : Ending) (w' : World) : Prop :=
  e = .returned (.tuple #[]) ∧ (∃ vi vr, RdS w' b base (tkC k s c) (tkF k s) vi vr) ∧ KP b base w w'
theorem tk_num {k : UInt8} (h : k = 110 ∨ k = 101 ∨ k = 107 ∨ k = 111) (s : ByteArray) (c : CmD) : tkF k s = numF (leastC k) (mostC k) s ∧ tkC k s c = { c with ints := c.ints ++ [(intI s (mostC k)).1] } := by
  rcases h with rfl | rfl | rfl | rfl <;> exact ⟨rfl, rfl⟩

set_option maxRecDepth 100000 in
set_option maxHeartbeats 4000000 in
theorem cmdTake_num (k : UInt8) (hk : k = 110 ∨ k = 101 ∨ k = 107 ∨ k = 111) (s : ByteArray) (c : CmD) (b base : Nat) (vi vr : Value) (w : World) (hs : s.size ≤ 2000) (hc : c.ints.length ≤ 1000000) (hlt : b < base) (hbz : base ≤ w.heap.size) (h : RdS w b base c 0 vi vr) :
    Calls Tryd.prog 55 #[.pointer (some ⟨b, 0, none⟩), .int .i32 (k.toNat : Int), .string s] w (TakePostC w b base k s c) := by
  obtain ⟨e1, e2⟩ := tk_num hk s c
  unfold TakePostC
  rw [e1, e2]
  have HNB := Lib.hid (number_any s (leastC k) (mostC k) c 0 b base vi vr w hs (by rcases hk with rfl | rfl | rfl | rfl <;> decide) hc hlt hbz h)
  clear h e1 e2
  rcases hk with rfl | rfl | rfl | rfl
  · (go_enter Tryd.func55, Tryd.ntmps55; go_wp2_with (go_at_call 87; refine HNB.out.mono ?_; rintro e w1 ⟨rfl, hr1, hb1⟩); (try simp only [Exit.inBlock, Exit.then]); (first | refine bodyPost_ret (results_none rfl _ _ _) rfl ?_ | refine bodyPost_end (results_none rfl _ _ _) rfl ?_); exact ⟨rfl, ⟨hr1.choose, _, hr1.choose_spec⟩, hb1⟩)
  · (go_enter Tryd.func55, Tryd.ntmps55; go_wp2_with (go_at_call 87; refine HNB.out.mono ?_; rintro e w1 ⟨rfl, hr1, hb1⟩); (try simp only [Exit.inBlock, Exit.then]); (first | refine bodyPost_ret (results_none rfl _ _ _) rfl ?_ | refine bodyPost_end (results_none rfl _ _ _) rfl ?_); exact ⟨rfl, ⟨hr1.choose, _, hr1.choose_spec⟩, hb1⟩)
  · (go_enter Tryd.func55, Tryd.ntmps55; go_wp2_with (go_at_call 87; refine HNB.out.mono ?_; rintro e w1 ⟨rfl, hr1, hb1⟩); (try simp only [Exit.inBlock, Exit.then]); (first | refine bodyPost_ret (results_none rfl _ _ _) rfl ?_ | refine bodyPost_end (results_none rfl _ _ _) rfl ?_); exact ⟨rfl, ⟨hr1.choose, _, hr1.choose_spec⟩, hb1⟩)
  · (go_enter Tryd.func55, Tryd.ntmps55; go_wp2_with (go_at_call 87; refine HNB.out.mono ?_; rintro e w1 ⟨rfl, hr1, hb1⟩); (try simp only [Exit.inBlock, Exit.then]); (first | refine bodyPost_ret (results_none rfl _ _ _) rfl ?_ | refine bodyPost_end (results_none rfl _ _ _) rfl ?_); exact ⟨rfl, ⟨hr1.choose, _, hr1.choose_spec⟩, hb1⟩)

set_option maxRecDepth 100000 in
set_option maxHeartbeats 4000000 in
theorem cmdTake_w (k : UInt8) (hk : k = 119 ∨ k = 97) (s : ByteArray) (c : CmD) (b base : Nat) (vi vr : Value) (w : World) (hs : s.size ≤ 2000) (hlt : b < base) (hbz : base ≤ w.heap.size) (h : RdS w b base c 0 vi vr) :
    Calls Tryd.prog 55 #[.pointer (some ⟨b, 0, none⟩), .int .i32 (k.toNat : Int), .string s] w (TakePostC w b base k s c) := by
  have HPI := Lib.hid (show ∀ W, Calls Tryd.prog 37 #[.string s] W fun e w' => e = .returned (.tuple #[.int .u64 (parseI s).1, .int .i64 (parseI s).2]) ∧ Below W.heap.size W w' from fun W => Parse_any _ W (by omega))
  have HR := Lib.hid h
  clear h
  rcases hk with rfl | rfl
  · have e1 : tkF 119 s = if (parseI s).2 = 0 ∧ ((parseI s).1 < 1 ∨ 4294967296 < (parseI s).1) then 2 else (parseI s).2 := rfl
    have e2 : tkC 119 s c = { c with w := (parseI s).1 } := rfl
    unfold TakePostC
    rw [e1, e2]
    clear e1 e2
    generalize parseI s = q at *
    obtain ⟨n, f⟩ := q
    simp only at HPI ⊢
    by_cases hf : f = 0
    · subst hf
      by_cases h1 : n < 1
      · rw [if_pos ⟨rfl, .inl h1⟩]
        go_enter Tryd.func55, Tryd.ntmps55
        go_wp2_with (go_at_call 37; refine (HPI.out _).mono ?_; rintro e w1 ⟨rfl, hb1⟩; (have HR1 := Lib.hid (HR.out.go hb1); have HB1 := Lib.hid ((KP.refl b base w).go hlt hbz hb1); clear hb1); obtain ⟨p2, q2⟩ := HR1.out.pb 2 _ rfl; obtain ⟨p7, q7⟩ := HR1.out.pb 7 _ rfl)
        (try simp only [Exit.inBlock, Exit.then])
        first | refine bodyPost_ret (results_none rfl _ _ _) rfl ?_ | refine bodyPost_end (results_none rfl _ _ _) rfl ?_
        exact ⟨rfl, ⟨vi, vr, (HR1.out.pb.set 2 _).set 7 _, ownsRow_setCell_below (ownsRow_setCell_below HR1.out.oi (a := ⟨b, 2, none⟩) hlt _) (a := ⟨b, 7, none⟩) hlt _, ownsRow_setCell_below (ownsRow_setCell_below HR1.out.oq (a := ⟨b, 2, none⟩) hlt _) (a := ⟨b, 7, none⟩) hlt _, HR1.out.far⟩, (HB1.out.put _ _).put _ _⟩
      · by_cases h2 : 4294967296 < n
        · rw [if_pos ⟨rfl, .inr h2⟩]
          go_enter Tryd.func55, Tryd.ntmps55
          go_wp2_with (go_at_call 37; refine (HPI.out _).mono ?_; rintro e w1 ⟨rfl, hb1⟩; (have HR1 := Lib.hid (HR.out.go hb1); have HB1 := Lib.hid ((KP.refl b base w).go hlt hbz hb1); clear hb1); obtain ⟨p2, q2⟩ := HR1.out.pb 2 _ rfl; obtain ⟨p7, q7⟩ := HR1.out.pb 7 _ rfl)
          (try simp only [Exit.inBlock, Exit.then])
          first | refine bodyPost_ret (results_none rfl _ _ _) rfl ?_ | refine bodyPost_end (results_none rfl _ _ _) rfl ?_
          exact ⟨rfl, ⟨vi, vr, (HR1.out.pb.set 2 _).set 7 _, ownsRow_setCell_below (ownsRow_setCell_below HR1.out.oi (a := ⟨b, 2, none⟩) hlt _) (a := ⟨b, 7, none⟩) hlt _, ownsRow_setCell_below (ownsRow_setCell_below HR1.out.oq (a := ⟨b, 2, none⟩) hlt _) (a := ⟨b, 7, none⟩) hlt _, HR1.out.far⟩, (HB1.out.put _ _).put _ _⟩
        · rw [if_neg (fun hh => hh.2.elim h1 h2)]
          go_enter Tryd.func55, Tryd.ntmps55
          go_wp2_with (go_at_call 37; refine (HPI.out _).mono ?_; rintro e w1 ⟨rfl, hb1⟩; (have HR1 := Lib.hid (HR.out.go hb1); have HB1 := Lib.hid ((KP.refl b base w).go hlt hbz hb1); clear hb1); obtain ⟨p2, q2⟩ := HR1.out.pb 2 _ rfl; obtain ⟨p7, q7⟩ := HR1.out.pb 7 _ rfl)
          (try simp only [Exit.inBlock, Exit.then])
          first | refine bodyPost_ret (results_none rfl _ _ _) rfl ?_ | refine bodyPost_end (results_none rfl _ _ _) rfl ?_
          exact ⟨rfl, ⟨vi, vr, (HR1.out.pb.set 2 _).set 7 _, ownsRow_setCell_below (ownsRow_setCell_below HR1.out.oi (a := ⟨b, 2, none⟩) hlt _) (a := ⟨b, 7, none⟩) hlt _, ownsRow_setCell_below (ownsRow_setCell_below HR1.out.oq (a := ⟨b, 2, none⟩) hlt _) (a := ⟨b, 7, none⟩) hlt _, HR1.out.far⟩, (HB1.out.put _ _).put _ _⟩
    · have hf2 : (f == 0) = false := by simpa using hf
      rw [if_neg (fun hh => hf hh.1)]
      clear hf
      go_enter Tryd.func55, Tryd.ntmps55
      go_wp2_with (go_at_call 37; refine (HPI.out _).mono ?_; rintro e w1 ⟨rfl, hb1⟩; (have HR1 := Lib.hid (HR.out.go hb1); have HB1 := Lib.hid ((KP.refl b base w).go hlt hbz hb1); clear hb1); obtain ⟨p2, q2⟩ := HR1.out.pb 2 _ rfl; obtain ⟨p7, q7⟩ := HR1.out.pb 7 _ rfl)
      (try simp only [Exit.inBlock, Exit.then])
      first | refine bodyPost_ret (results_none rfl _ _ _) rfl ?_ | refine bodyPost_end (results_none rfl _ _ _) rfl ?_
      exact ⟨rfl, ⟨vi, vr, (HR1.out.pb.set 2 _).set 7 _, ownsRow_setCell_below (ownsRow_setCell_below HR1.out.oi (a := ⟨b, 2, none⟩) hlt _) (a := ⟨b, 7, none⟩) hlt _, ownsRow_setCell_below (ownsRow_setCell_below HR1.out.oq (a := ⟨b, 2, none⟩) hlt _) (a := ⟨b, 7, none⟩) hlt _, HR1.out.far⟩, (HB1.out.put _ _).put _ _⟩
  · have e1 : tkF 97 s = (parseI s).2 := rfl
    have e2 : tkC 97 s c = { c with w := (parseI s).1 } := rfl
    unfold TakePostC
    rw [e1, e2]
    clear e1 e2
    generalize parseI s = q at *
    obtain ⟨n, f⟩ := q
    simp only at HPI ⊢
    cases hf : (f == 0) with
    | true =>
      go_enter Tryd.func55, Tryd.ntmps55
      go_wp2_with (go_at_call 37; refine (HPI.out _).mono ?_; rintro e w1 ⟨rfl, hb1⟩; (have HR1 := Lib.hid (HR.out.go hb1); have HB1 := Lib.hid ((KP.refl b base w).go hlt hbz hb1); clear hb1); obtain ⟨p2, q2⟩ := HR1.out.pb 2 _ rfl; obtain ⟨p7, q7⟩ := HR1.out.pb 7 _ rfl)
      (try simp only [Exit.inBlock, Exit.then])
      first | refine bodyPost_ret (results_none rfl _ _ _) rfl ?_ | refine bodyPost_end (results_none rfl _ _ _) rfl ?_
      exact ⟨rfl, ⟨vi, vr, (HR1.out.pb.set 2 _).set 7 _, ownsRow_setCell_below (ownsRow_setCell_below HR1.out.oi (a := ⟨b, 2, none⟩) hlt _) (a := ⟨b, 7, none⟩) hlt _, ownsRow_setCell_below (ownsRow_setCell_below HR1.out.oq (a := ⟨b, 2, none⟩) hlt _) (a := ⟨b, 7, none⟩) hlt _, HR1.out.far⟩, (HB1.out.put _ _).put _ _⟩
    | false =>
      go_enter Tryd.func55, Tryd.ntmps55
      go_wp2_with (go_at_call 37; refine (HPI.out _).mono ?_; rintro e w1 ⟨rfl, hb1⟩; (have HR1 := Lib.hid (HR.out.go hb1); have HB1 := Lib.hid ((KP.refl b base w).go hlt hbz hb1); clear hb1); obtain ⟨p2, q2⟩ := HR1.out.pb 2 _ rfl; obtain ⟨p7, q7⟩ := HR1.out.pb 7 _ rfl)
      (try simp only [Exit.inBlock, Exit.then])
      first | refine bodyPost_ret (results_none rfl _ _ _) rfl ?_ | refine bodyPost_end (results_none rfl _ _ _) rfl ?_
      exact ⟨rfl, ⟨vi, vr, (HR1.out.pb.set 2 _).set 7 _, ownsRow_setCell_below (ownsRow_setCell_below HR1.out.oi (a := ⟨b, 2, none⟩) hlt _) (a := ⟨b, 7, none⟩) hlt _, ownsRow_setCell_below (ownsRow_setCell_below HR1.out.oq (a := ⟨b, 2, none⟩) hlt _) (a := ⟨b, 7, none⟩) hlt _, HR1.out.far⟩, (HB1.out.put _ _).put _ _⟩

/-- append at a step of a region that draws its order, what else stays, and where the row lies -/
theorem step_appC {P : Program} {w : World} {ops : Array Oper} {o : Oper} {a : Act} {K : Act → World → Prop} {Q : Exit → Act → World → Prop} {F : Prop} (hgd : o.guard = none) (s x : Operand) (t : TypeId)
    (ho : o.op = .call { callee := .builtin .append, args := #[s, x], argTypes := #[t, t] })
    (base : Nat) (E : TypeId) (z : Value) (size bytes : Nat) (hE : Elem P E z size bytes) (ht : P.underlying t = some (.slice E))
    (v : Value) (n : Nat) (xs : List Value) (ad : Addr) (m c : Nat) (news : List Value) (hs : a.eval s = v) (hx : a.eval x = .slice (some ad) m c)
    (hown : w.ownsRow base E size v n xs) (hnews : ∀ j u, news[j]? = some u → w.cell? (ad.add j) = some u) (h1 : ∀ u ∈ news, u.oneCell' = true)
    (hl : news.length = m * size ∧ 0 < m ∧ n + m ≤ 9223372036854775807 ∧ (n + m) * bytes ≤ 140737488355328 ∧ base ≤ w.heap.size)
    (h : ∀ g cap w', w'.ownsRow base E size (.slice (some ⟨g, 0, none⟩) (n + m) cap) (n + m) (xs ++ news) → w.grownBy w' v.ownBlock → Below base w w' → (v.ownBlock = some g ∨ g = w.heap.size) → K (a.put o.dst (.slice (some ⟨g, 0, none⟩) (n + m) cap)) w') :
    if Region.wanted o (yielded ops a.tmps) = true then Oper.wp P o a w K Q else F := by
  obtain ⟨hE, hz1, hz2⟩ := hE
  obtain ⟨i, hi, hz, hsz, hby⟩ := info_parts hE
  obtain ⟨l1, l2, l3, l4, l5⟩ := hl
  refine step_append_lies w hgd s x t ho base E i z size bytes ht hi hz hsz hby hz1 hz2 v n xs hs hown ad m c news hx l1 hnews h1 l2 (by unfold maxLen; omega) l4 l5 _ rfl ?_
  intro g cap w' ho hg hat hlt
  exact h g cap w' ho hg ((Below.refl _ w).grown hg l5 (fun k hk => (hown.lt k hk).1)) hat

theorem cm_elemq : Elem Tryd.prog 68 (.agg #[.int .u64 0, .int .u64 0]) 2 16 := ⟨by kernel_rfl, rfl, by decide⟩
theorem cm_oneq (a b : Int) : ∀ u ∈ [Value.int .u64 a, .int .u64 b], u.oneCell' = true := by
  intro u hu
  simp at hu
  rcases hu with rfl | rfl <;> rfl
theorem cm_two (w : World) (x y : Value) (T : TypeId) {k : Nat} (hk : k = w.heap.size) : ∀ j u, [x, y][j]? = some u → (w.alloc (.cells #[x, y] T)).cell? ((⟨k, 0, none⟩ : Addr).add j) = some u := by
  intro j u hu
  subst hk
  rw [Addr.add_lit]
  have := World.cell?_alloc_mark w #[x, y] T (0, 0) (0 + j)
  rw [this]
  simpa using hu
theorem RdS.rat {W W' : World} {b base : Nat} {c : CmD} {f f' : Int} {q : Int × Int} {vi vr : Value} {g cap : Nat} (h : RdS W b base c f vi vr) (hlt : b < base) (ho : W'.ownsRow base 68 2 (.slice (some ⟨g, 0, none⟩) (c.rats.length + 1) cap) (c.rats.length + 1) (flatP c.rats ++ [.int .u64 q.1, .int .u64 q.2]))
    (hg : W.grownBy W' vr.ownBlock) (hat : vr.ownBlock = some g ∨ g = W.heap.size) :
    RdS ((W'.setCell ⟨b, 3, none⟩ (.slice (some ⟨g, 0, none⟩) (c.rats.length + 1) cap)).setCell ⟨b, 7, none⟩ (.int .i64 f')) b base { c with rats := c.rats ++ [q] } f' vi (.slice (some ⟨g, 0, none⟩) (c.rats.length + 1) cap) := by
  have hp : PB W' b (rdL c f vi vr) := h.pb.eq (hg.block b h.pb.lt (fun e => by have := (h.oq.lt b e.symm).1; omega))
  refine ⟨(hp.set 3 _).set 7 _, ?_, ?_, ?_⟩
  · refine ownsRow_setCell_below (ownsRow_setCell_below (h.oi.kept hg ?_) (a := ⟨b, 3, none⟩) hlt _) (a := ⟨b, 7, none⟩) hlt _
    cases hv : vi.ownBlock with
    | none => exact .inl rfl
    | some k => exact .inr (fun e => h.far k hv e.symm)
  · rw [show (c.rats ++ [q]).length = c.rats.length + 1 by simp, flatP_snoc]
    exact ownsRow_setCell_below (ownsRow_setCell_below ho (a := ⟨b, 3, none⟩) hlt _) (a := ⟨b, 7, none⟩) hlt _
  · intro k hk e
    have e2 : g = k := Option.some.inj e
    subst e2
    rcases hat with e3 | e3
    · exact h.far _ hk e3
    · have h9 : g < W.heap.size := (h.oi.lt _ hk).2
      omega

end Go.Proofs.YtelcmkccfjdmjaaDoor

namespace Go.Proofs.YtelcmkccfjdmjaaDoor
open Go Go.Proofs Go.RowKit Go.Shelf Go.Sort

set_option maxRecDepth 100000 in
set_option maxHeartbeats 8000000 in
theorem cmdTake_r (s : ByteArray) (c : CmD) (b base : Nat) (vi vr : Value) (w : World) (hs : s.size ≤ 2000) (hc : c.rats.length ≤ 1000000) (hlt : b < base) (hbz : base ≤ w.heap.size) (h : RdS w b base c 0 vi vr) :
    Calls Tryd.prog 55 #[.pointer (some ⟨b, 0, none⟩), .int .i32 114, .string s] w (TakePostC w b base 114 s c) := by
  have HPI := Lib.hid (fun W => RParse_any s W (by omega))
  have HR := Lib.hid h
  obtain ⟨ao, cap, rfl, -⟩ := Cel.of_owns h.oi
  obtain ⟨ar, car, rfl, -⟩ := Cel.of_owns h.oq
  have e1 : tkF 114 s = (parseR s).2 := rfl
  have e2 : tkC 114 s c = { c with rats := c.rats ++ [(parseR s).1] } := rfl
  unfold TakePostC
  rw [e1, e2]
  generalize parseR s = q at *
  obtain ⟨⟨qn, qd⟩, f⟩ := q
  simp only [parV] at HPI ⊢
  clear h e1 e2
  go_enter Tryd.func55, Tryd.ntmps55
  go_wp2_with (go_at_call 88; refine (HPI.out _).mono ?_; rintro e w2 ⟨rfl, hb2⟩; (have HR2 := Lib.hid (HR.out.go hb2); have HB2 := Lib.hid ((KP.refl b base w).go hlt hbz hb2); have hz2 := hb2.size; clear hb2))
  obtain ⟨W3, hW3, k0, k1⟩ : ∃ W3, W3 = w2.alloc (Obj.cells #[.int .u64 qn, .int .u64 qd] 68) ∧ W3.cell? ⟨w2.heap.size, 0, none⟩ = some (.int .u64 qn) ∧ W3.cell? ⟨w2.heap.size, 1, none⟩ = some (.int .u64 qd) := ⟨_, rfl, by go_simp, by go_simp⟩
  have HR3 := Lib.hid (show RdS W3 b base c 0 (.slice ao c.ints.length cap) (.slice ar c.rats.length car) by rw [hW3]; exact HR2.out.go (Below.of_al _ _))
  have HB3 := Lib.hid (show KP b base w W3 by rw [hW3]; exact HB2.out.go hlt (by omega) (Below.of_al _ _))
  have HZ3 := Lib.hid (show base ≤ W3.heap.size by rw [hW3]; simp; omega)
  have HO3 := Lib.hid HR3.out.oq
  rw [← hW3]
  generalize w2.heap.size = K at *
  clear hW3 HR2 HB2 hz2
  obtain ⟨p3, f3⟩ := HR3.out.pb 3 _ rfl
  obtain ⟨p7, f7⟩ := HR3.out.pb 7 _ rfl
  have p3a := fun o => cell_later (Below.of_al W3 o) p3
  go_region_law (refine step_appC rfl (.tmp 44) (.tmp 46) 25 rfl base 68 _ 2 16 cm_elemq Tryd.underlying25 (.slice ar c.rats.length car) c.rats.length (flatP c.rats) ⟨W3.heap.size, 0, none⟩ 1 1 [.int .u64 qn, .int .u64 qd] rfl rfl (World.ownsRow.alloc (owns_dr HO3.out 1) _) (cm_two _ _ _ _ rfl) (cm_oneq _ _) ⟨rfl, by decide, by omega, by omega, by have := HZ3.out; simp; omega⟩ ?_; intro g6 cap6 w6 hown hgr hbl hat; (have hU := (Below.of_al W3 (Obj.cells #[.int .u64 qn, .int .u64 qd] 68)).drew; have HR6 := Lib.hid ((HR3.out.go hU).rat (f' := f) (q := (qn, qd)) hlt hown hgr hat); have HP6 := Lib.hid ((HR3.out.go hU).pb.eq (hgr.block b (by have := HZ3.out; have := hU.size; omega) (fun e => by have := (HO3.out.lt b e.symm).1; omega))); have HB6 := Lib.hid ((HB3.out.go hlt HZ3.out hU).low hlt hbl); clear hown hgr hbl hat hU); obtain ⟨p3, f3⟩ := HP6.out 3 _ rfl; obtain ⟨p7, f7⟩ := HP6.out 7 _ rfl)
  all_goals
    go_wp2
    (try simp only [Exit.inBlock, Exit.then])
    first | refine bodyPost_ret (results_none rfl _ _ _) rfl ?_ | refine bodyPost_end (results_none rfl _ _ _) rfl ?_
    exact ⟨rfl, ⟨_, _, HR6.out⟩, (HB6.out.put _ _).put _ _⟩

/-- the kinds of words -/
def isKind (k : UInt8) : Prop := k = 110 ∨ k = 101 ∨ k = 107 ∨ k = 111 ∨ k = 114 ∨ k = 119 ∨ k = 97
theorem cmdTake_any (k : UInt8) (hk : isKind k) (s : ByteArray) (c : CmD) (b base : Nat) (vi vr : Value) (w : World) (hs : s.size ≤ 2000) (hi : c.ints.length ≤ 1000000) (hc : c.rats.length ≤ 1000000) (hlt : b < base) (hbz : base ≤ w.heap.size) (h : RdS w b base c 0 vi vr) :
    Calls Tryd.prog 55 #[.pointer (some ⟨b, 0, none⟩), .int .i32 (k.toNat : Int), .string s] w (TakePostC w b base k s c) := by
  rcases hk with h1 | h1 | h1 | h1 | h1 | h1 | h1
  · exact cmdTake_num k (.inl h1) s c b base vi vr w hs hi hlt hbz h
  · exact cmdTake_num k (.inr (.inl h1)) s c b base vi vr w hs hi hlt hbz h
  · exact cmdTake_num k (.inr (.inr (.inl h1))) s c b base vi vr w hs hi hlt hbz h
  · exact cmdTake_num k (.inr (.inr (.inr h1))) s c b base vi vr w hs hi hlt hbz h
  · subst h1
    exact cmdTake_r s c b base vi vr w hs hc hlt hbz h
  · exact cmdTake_w k (.inl h1) s c b base vi vr w hs hlt hbz h
  · exact cmdTake_w k (.inr h1) s c b base vi vr w hs hlt hbz h

end Go.Proofs.YtelcmkccfjdmjaaDoor
