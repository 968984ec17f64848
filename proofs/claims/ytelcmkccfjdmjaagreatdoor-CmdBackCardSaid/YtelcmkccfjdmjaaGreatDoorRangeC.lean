/-
  A range over a function whose iterator keeps a cell of its own: what is asked of the iterator, and the law of the statement.
  The parts of a text between the signs that part it: plain Lean, and the library's iterator that tells them.
-/
import Derived.RangeFuncIn
import Derived.RangeFuncBox
import Derived.RangeFuncRecord
import Derived.RangeFuncLeaves
import Derived.RangeFuncCalls
import Derived.Test.YtelcmkccfjdmjaaGreatDoorBase
import Derived.Test.YtelcmkccfjdmjaaGreatDoorProg
import Derived.Test.YtelcmkccfjdmjaaGreatDoorShelf
import Derived.RangeFuncNested
import Derived.RangeFuncBound
import Derived.Shelf.Abstract
import Derived.Shelf.RegionOpen
import Derived.WalkKit
import Derived.OwnWalkIn
import Derived.TacticsInMore
import Derived.LoopNIn
import Derived.LoopIn
namespace Go.Proofs.YtelcmkccfjdmjaaGreatDoor
open Go Go.Proofs Go.RowKit

/-- but for the blocks of X the world is as it was; it may have grown -/
structure OffX (X : Nat → Prop) (w w' : World) : Prop where
  os : w'.os = w.os
  tape : w'.tape = w.tape
  output : w'.output = w.output
  size : w.heap.size ≤ w'.heap.size
  block : ∀ k, k < w.heap.size → ¬ X k → w'.heap[k]? = w.heap[k]?
theorem OffX.refl (X : Nat → Prop) (w : World) : OffX X w w := ⟨rfl, rfl, rfl, Nat.le_refl _, fun _ _ _ => rfl⟩
theorem OffX.trans {X : Nat → Prop} {a b c : World} (h : OffX X a b) (k : OffX X b c) : OffX X a c :=
  ⟨k.os.trans h.os, k.tape.trans h.tape, k.output.trans h.output, Nat.le_trans h.size k.size, fun i hi hn => (k.block i (by have := h.size; omega) hn).trans (h.block i hi hn)⟩
theorem OffX.mono {X Y : Nat → Prop} {a b : World} (h : OffX X a b) (hs : ∀ k, X k → Y k) : OffX Y a b := ⟨h.os, h.tape, h.output, h.size, fun k hk hn => h.block k hk (fun e => hn (hs k e))⟩
theorem OffX.of_below {X : Nat → Prop} {a b : World} (h : Below a.heap.size a b) : OffX X a b := ⟨h.os, h.tape, h.output, h.size, fun k hk _ => h.block k hk⟩
theorem OffX.put {X : Nat → Prop} {a : World} {l : Nat} (o : Obj) (hX : X l) : OffX X a (a.putObj l o) :=
  have h := grownBy_putObj' a l o
  ⟨h.os, h.tape, h.output, h.size, fun k hk hn => h.block k hk (fun e => hn (by cases e; exact hX))⟩
theorem OffX.set {X : Nat → Prop} {a : World} {b j : Nat} (v : Value) (hX : X b) : OffX X a (a.setCell ⟨b, j, none⟩ v) :=
  ⟨rfl, rfl, rfl, by simp [World.setCell], fun k _ hn => Below.heap_setCell _ _ _ _ (fun e => hn (by cases e; exact hX))⟩
theorem OffX.below {X : Nat → Prop} {a b : World} {B : Nat} (h : OffX X a b) (hB : B ≤ a.heap.size) (hX : ∀ k, X k → B ≤ k) : Below B a b :=
  ⟨h.os, h.tape, h.output, h.size, fun k hk => h.block k (by omega) (fun e => by have := hX k e; omega)⟩
theorem OffX.cell {X : Nat → Prop} {a b : World} {p : Addr} {v : Value} (h : OffX X a b) (hc : a.cell? p = some v) (hn : ¬ X p.block) : b.cell? p = some v :=
  (World.cell?_of_block (w := a) (h.block p.block (World.block_lt_of_cell? _ _ hc) hn)).trans hc
theorem OffX.frozen {X : Nat → Prop} {a b : World} {p : Addr} (h : OffX X a b) (hl : p.block < a.heap.size) (hn : ¬ X p.block) : b.frozen? p = a.frozen? p :=
  World.frozen?_of_block (w := a) (h.block p.block hl hn)
theorem OffX.owns {X : Nat → Prop} {w w' : World} {base : Nat} {e : TypeId} {size n : Nat} {v : Value} {xs : List Value} (h : w.ownsRow base e size v n xs) (hb : OffX X w w') (hX : ∀ k, X k → k < base) : w'.ownsRow base e size v n xs := by
  refine ⟨h.1, ?_⟩
  rcases h.2 with h2 | ⟨g, cap, cur, hv, hbg, hg, r⟩
  · exact .inl h2
  · exact .inr ⟨g, cap, cur, hv, hbg, by rw [hb.block g (Array.getElem?_eq_some_iff.1 hg).1 (fun e => by have := hX g e; omega)]; exact hg, r⟩

/-- the blocks of X lie as they lay -/
def KeepX (X : Nat → Prop) (w w' : World) : Prop := w.heap.size ≤ w'.heap.size ∧ ∀ k, X k → w'.heap[k]? = w.heap[k]?
theorem KeepX.trans {X : Nat → Prop} {a b c : World} (h : KeepX X a b) (k : KeepX X b c) : KeepX X a c := ⟨Nat.le_trans h.1 k.1, fun i hi => (k.2 i hi).trans (h.2 i hi)⟩
theorem KeepX.mono {X Y : Nat → Prop} {a b : World} (h : KeepX Y a b) (hs : ∀ k, X k → Y k) : KeepX X a b := ⟨h.1, fun k hk => h.2 k (hs k hk)⟩
/-- the three boxes of the iterator -/
def Bx3 (B k : Nat) : Prop := B ≤ k ∧ k < B + 3

/-- an iterator that tells the parts, one behind the other, and keeps the cell B of its own -/
def SeqC {α : Type} (F : Fence) (n : Nat) (P : Program) (g : Nat) (lb : Array Value) (encs : α → Array Value) (parts : List α) (B : Nat) (w : World) : Prop :=
  ∀ (l : Nat) (J Jx : List α → World → Prop) (W : World), KeepX (Bx3 B) w W → (∀ pre W1 W2, J pre W1 → OffX (· = B) W1 W2 → J pre W2) → (∀ pre W1 W2, Jx pre W1 → OffX (· = B) W1 W2 → Jx pre W2) →
    (∀ pre x W1, J pre W1 → (pre ++ [x]) <+: parts → YieldAt F (n - 1) P l (encs x) W1 fun e W' =>
      (e = .returned (.bool true) ∧ J (pre ++ [x]) W' ∧ KeepX (Bx3 B) W1 W') ∨ (e = .returned (.bool false) ∧ Jx (pre ++ [x]) W')) →
    J [] W →
    CallsIn F n P g (#[.func (.yield l) #[] #[]] ++ lb) W fun e W' => (∃ v, e = .returned v) ∧ (J parts W' ∨ ∃ pre, pre <+: parts ∧ Jx pre W')

/-- how the body of a round may be left -/
def postC {α : Type} (X : Nat → Prop) (I : List α → World → Prop) (Ix : Code → List α → World → Prop) (xs : List α) (W : World) : Exit → Act → World → Prop
  | .normal, _, W' => KeepX X W W' ∧ I xs W'
  | .ret, _, W' => KeepX X W W' ∧ Ix .ret xs W'
  | .exit id, _, W' => KeepX X W W' ∧ Ix (.exit id) xs W'
  | .goto t, _, W' => KeepX X W W' ∧ Ix (.goto t) xs W'
  | .panic _, _, _ => False
  | .outgrown, _, _ => False

variable {F : Fence} {n : Nat} {P : Program}

/-- the blocks that the body must leave: the iterator's, and the loop's record and marks -/
def BodyX (B D k : Nat) : Prop := Bx3 B k ∨ k = D ∨ k = D + 1
/-- the blocks that turn between two rounds -/
def TurnX (B D k : Nat) : Prop := k = B ∨ k = D + 1

theorem wpIn_rangeC {α : Type} {g : Operand} {ps : Array Tmp} {assign body : Code} {Q : Exit → Act → World → Prop} {a : Act} {w : World}
    (hro : F.round = none) (h1 : 1 ≤ n) {gf : Nat} {lb : Array Value} (hg : a.eval g = .func (.func gf) #[] lb) (hFg : F.fn gf) (eg : ∀ args w, (callFunc gf args).run P w = .ok (.enter gf args) w)
    {encs : α → Array Value} {parts : List α} {B : Nat} (hseq : SeqC F (n - 1) P gf lb encs parts B w) (hB : B + 3 ≤ w.heap.size) (hps : ∀ x, (encs x).size = ps.size)
    (I : List α → World → Prop) (Ix : Code → List α → World → Prop)
    (hI : ∀ pre W W', I pre W → OffX (TurnX B w.heap.size) W W' → I pre W') (hIx : ∀ c pre W W', Ix c pre W → OffX (TurnX B w.heap.size) W W' → Ix c pre W') (h0 : I [] w) (a₁ : α → Act)
    (hassign : ∀ (l : Nat) (x : α) (W : World) (K : Act → World → Prop), K (a₁ x) W →
      assign.wpIn (F.inRound l) (n - 1 - 1) P (Exit.then K (fun _ _ _ => False)) { tmps := (ps.zip (encs x)).foldl (fun t (p, v) => t.setIfInBounds p v) a.tmps, defers := [] } W)
    (hbody : ∀ (l : Nat) (pre : List α) (x : α) (W : World), I pre W → (pre ++ [x]) <+: parts → w.heap.size + 2 ≤ W.heap.size →
      body.wpIn (F.inRound l) (n - 1 - 1) P (postC (BodyX B w.heap.size) I Ix (pre ++ [x]) W) (a₁ x) W)
    (hdone : ∀ (D : Nat) (W : World), D = w.heap.size → I parts W → W.heap[D]? = some (.deferred (some [])) → Q .normal { a with defers := { target := .collected D, args := #[] } :: a.defers } W)
    (hstop : ∀ (D : Nat) (c : Code) (pre : List α) (W : World), D = w.heap.size → pre <+: parts → Ix c pre W → W.heap[D]? = some (.deferred (some [])) → c.wpIn F n P Q { a with defers := { target := .collected D, args := #[] } :: a.defers } W) :
    (Code.rangeFunc g ps assign body).wpIn F n P Q a w := by
  refine wpIn_rangeFunc fun fn hfn => ?_
  rw [hro]
  obtain ⟨R, hR⟩ : ∃ R : LoopState → Option Code → Loop, R = fun st pe => { state := st, pending := pe, fn, tmps := a.tmps, params := ps, assign, body, defers := w.heap.size } := ⟨_, rfl⟩
  obtain ⟨D, hD⟩ : ∃ D, w.heap.size = D := ⟨_, rfl⟩
  obtain ⟨V, hV⟩ : ∃ V, V = (w.alloc (.deferred (some []))).alloc (.loop (R .ready none)) := ⟨_, rfl⟩
  have loopV : V.heap[D + 1]? = some (.loop (R .ready none)) := by
    have := World.alloc_heap_new (w.alloc (.deferred (some []))) (.loop (R .ready none))
    rw [World.size_alloc, hD] at this
    rw [hV]; exact this
  have markV : V.heap[D]? = some (.deferred (some [])) := by
    have := World.alloc_heap_new w (.deferred (some []))
    rw [hD] at this
    rw [hV, Below.heap_alloc _ _ _ (by rw [World.size_alloc]; omega)]
    exact this
  have growV : Below w.heap.size w V := by rw [hV]; exact ((Below.refl _ w).alloc (Nat.le_refl _) _).alloc (by simp) _
  have sizeV : V.heap.size = D + 2 := by rw [hV]; simp; omega
  have isR : ∀ st pe, (R st pe).params = ps ∧ (R st pe).tmps = a.tmps ∧ (R st pe).fn = fn ∧ (R st pe).assign = assign ∧ (R st pe).body = body ∧ (R st pe).state = st ∧ (R st pe).pending = pe := fun st pe => by rw [hR]; exact ⟨rfl, rfl, rfl, rfl, rfl, rfl, rfl⟩
  refine ⟨D + 1, [{ target := .collected D, args := #[] }], V, { target := .fn (.func gf) lb, args := #[.func (.yield (D + 1)) #[] #[]] }, V, gf, #[.func (.yield (D + 1)) #[] #[]] ++ lb, V, ?_, ?_, ?_, ?_, fun _ => h1, ?_⟩
  · have := run_enterLoop_outer (P := P) (w := w) fn a.tmps ps assign body
    rw [this, hV, hR, hD]
  · simp only [resolve, hg]
    simp [go_sem]
  · intro f' hf'
    simp [Target.leads] at hf'
    subst hf'
    exact hFg
  · simp [invoke, go_sem, eg]
  · rw [hD] at hI hIx hbody hdone hstop hB growV
    refine (hseq (D + 1) (fun pre W => I pre W ∧ W.heap[D + 1]? = some (.loop (R .ready none)) ∧ W.heap[D]? = some (.deferred (some [])))
      (fun pre W => ∃ c, Ix c pre W ∧ W.heap[D + 1]? = some (.loop (R .done (some c))) ∧ W.heap[D]? = some (.deferred (some [])))
      V ⟨growV.size, fun k hk => growV.block k (by have := hk.2; omega)⟩ ?_ ?_ ?round ⟨hI _ _ _ h0 (.of_below (by rw [hD]; exact growV)), loopV, markV⟩).mono ?_
    · rintro pre W1 W2 ⟨hi, hl, hk⟩ ho
      refine ⟨hI _ _ _ hi (ho.mono fun k e => .inl e), ?_, ?_⟩
      · rw [ho.block (D + 1) (Array.getElem?_eq_some_iff.1 hl).1 (by omega)]; exact hl
      · rw [ho.block D (Array.getElem?_eq_some_iff.1 hk).1 (by omega)]; exact hk
    · rintro pre W1 W2 ⟨c, hi, hl, hk⟩ ho
      refine ⟨c, hIx _ _ _ _ hi (ho.mono fun k e => .inl e), ?_, ?_⟩
      · rw [ho.block (D + 1) (Array.getElem?_eq_some_iff.1 hl).1 (by omega)]; exact hl
      · rw [ho.block D (Array.getElem?_eq_some_iff.1 hk).1 (by omega)]; exact hk
    case round =>
      rintro pre x W ⟨hi, hl, hk⟩ hpx
      have hlt : D + 1 < W.heap.size := (Array.getElem?_eq_some_iff.1 hl).1
      obtain ⟨e1, e2, e3, e4, e5, e6, e7⟩ := isR .ready none
      have hy := run_yield (P := P) (args := encs x) hl (by rw [e1]; exact hps x)
      rw [e1, e2, e3, e4, e5] at hy
      refine ⟨fn, _, assign, body, hy, roundIn_of_wpIn hfn (hassign _ x W _ ⟨_, run_beginRound hl e6, ?_⟩)⟩
      obtain ⟨Wb, hWb⟩ : ∃ Wb, Wb = W.putObj (D + 1) (.loop { R .ready none with state := .busy }) := ⟨_, rfl⟩
      rw [← hWb]
      have hlb : Wb.heap[D + 1]? = some (.loop { R .ready none with state := .busy }) := by rw [hWb]; exact World.putObj_heap_same hlt
      have hkb : Wb.heap[D]? = some (.deferred (some [])) := by rw [hWb]; exact (World.putObj_heap_other (by omega)).trans hk
      have hob : OffX (TurnX B D) W Wb := by rw [hWb]; exact .put _ (.inr rfl)
      have hsb : W.heap.size ≤ Wb.heap.size := hob.size
      have hkx : KeepX (Bx3 B) W Wb := ⟨hsb, fun k hk => by
        rw [hWb]; exact World.putObj_heap_other (by have := hk.2; omega)⟩
      refine wpIn_mono (hbody _ pre x Wb (hI _ _ _ hi hob) hpx (by omega)) ?_
      have fin : ∀ (jump : Option Code) (W3 : World), KeepX (BodyX B D) Wb W3 → ∃ W4, (Instr.endRound (D + 1) jump).run P W3 = .ok (.bool jump.isNone) W4 ∧ OffX (TurnX B D) W3 W4 ∧ KeepX (Bx3 B) W W4 ∧
          W4.heap[D + 1]? = some (.loop (R (if jump.isNone then .ready else .done) jump)) ∧ W4.heap[D]? = some (.deferred (some [])) := by
        intro jump W3 hk3
        have hl3 : W3.heap[D + 1]? = some (.loop { R .ready none with state := .busy }) := (hk3.2 _ (.inr (.inr rfl))).trans hlb
        have hd3 : W3.heap[D]? = some (.deferred (some [])) := (hk3.2 _ (.inr (.inl rfl))).trans hkb
        have he := run_endRound (P := P) jump hl3
        refine ⟨_, he, .put _ (.inr rfl), hkx.trans ((hk3.mono fun k h => .inl h).trans ⟨(OffX.put (X := TurnX B D) _ (.inr rfl)).size, fun k hk => World.putObj_heap_other (by have := hk.2; omega)⟩), ?_, (World.putObj_heap_other (by omega)).trans hd3⟩
        rw [World.putObj_heap_same (Array.getElem?_eq_some_iff.1 hl3).1, hR]
      rintro e a3 W3 hp
      cases e with
      | normal =>
        obtain ⟨hk3, hi3⟩ := hp
        obtain ⟨W4, r1, r2, r3, r4, r5⟩ := fin none W3 hk3
        exact ⟨_, _, r1, .inl ⟨rfl, ⟨hI _ _ _ hi3 r2, r4, r5⟩, r3⟩⟩
      | ret =>
        obtain ⟨hk3, hi3⟩ := hp
        obtain ⟨W4, r1, r2, r3, r4, r5⟩ := fin (some .ret) W3 hk3
        exact ⟨_, _, r1, .inr ⟨rfl, .ret, hIx _ _ _ _ hi3 r2, r4, r5⟩⟩
      | exit id =>
        obtain ⟨hk3, hi3⟩ := hp
        obtain ⟨W4, r1, r2, r3, r4, r5⟩ := fin (some (.exit id)) W3 hk3
        exact ⟨_, _, r1, .inr ⟨rfl, .exit id, hIx _ _ _ _ hi3 r2, r4, r5⟩⟩
      | goto t =>
        obtain ⟨hk3, hi3⟩ := hp
        obtain ⟨W4, r1, r2, r3, r4, r5⟩ := fin (some (.goto t)) W3 hk3
        exact ⟨_, _, r1, .inr ⟨rfl, .goto t, hIx _ _ _ _ hi3 r2, r4, r5⟩⟩
      | panic ch => exact hp.elim
      | outgrown => exact hp.elim
    · rintro e W2 ⟨⟨v, rfl⟩, ⟨hi, hl, hk⟩ | ⟨pre, hpp, c, hi, hl, hk⟩⟩
      · obtain ⟨e1, e2, e3, e4, e5, e6, e7⟩ := isR .ready none
        have he := run_endLoop (P := P) hl (by rw [e6]; simp)
        rw [e7] at he
        exact ⟨none, _, he, hdone D _ rfl (hI _ _ _ hi (.put _ (.inr rfl))) ((World.putObj_heap_other (by omega)).trans hk)⟩
      · obtain ⟨e1, e2, e3, e4, e5, e6, e7⟩ := isR .done (some c)
        have he := run_endLoop (P := P) hl (by rw [e6]; simp)
        rw [e7] at he
        exact ⟨some c, _, he, hstop D c pre _ rfl hpp (hIx _ _ _ _ hi (.put _ (.inr rfl))) ((World.putObj_heap_other (by omega)).trans hk)⟩

end Go.Proofs.YtelcmkccfjdmjaaGreatDoor

namespace Go.Proofs.YtelcmkccfjdmjaaGreatDoor
open Go Go.Proofs Go.RowKit Go.Shelf

def splitB (c : UInt8) : List UInt8 → List (List UInt8)
  | [] => [[]]
  | x :: r => if x = c then [] :: splitB c r else (x :: (splitB c r).headD []) :: (splitB c r).tail
theorem splitB_ne (c : UInt8) : ∀ l, splitB c l ≠ []
  | [] => by simp [splitB]
  | x :: r => by unfold splitB; split <;> simp
theorem splitB_cons (c : UInt8) (l : List UInt8) : ∃ h t, splitB c l = h :: t := by
  cases e : splitB c l with
  | nil => exact absurd e (splitB_ne c l)
  | cons h t => exact ⟨h, t, rfl⟩
theorem splitB_none (c : UInt8) : ∀ l, Lib.indexByte l c = -1 → splitB c l = [l]
  | [], _ => rfl
  | x :: r, h => by
    unfold Lib.indexByte at h
    by_cases e : x = c
    · subst e; simp at h
    · have e2 : (x == c) = false := by simpa using e
      rw [e2] at h
      simp only [Bool.false_eq_true, if_false] at h
      have hg := Lib.indexByte_ge r c
      have h2 : Lib.indexByte r c = -1 := by
        split at h
        · simp_all
        · omega
      unfold splitB
      rw [if_neg e, splitB_none c r h2]
      rfl
theorem splitB_some (c : UInt8) : ∀ (l : List UInt8) (i : Nat), Lib.indexByte l c = (i : Int) → splitB c l = l.take i :: splitB c (l.drop (i + 1))
  | [], i, h => by unfold Lib.indexByte at h; omega
  | x :: r, i, h => by
    unfold Lib.indexByte at h
    by_cases e : x = c
    · subst e
      simp at h
      obtain rfl : i = 0 := by omega
      rw [splitB.eq_2, if_pos rfl]
      rfl
    · have e2 : (x == c) = false := by simpa using e
      rw [e2] at h
      simp only [Bool.false_eq_true, if_false] at h
      split at h
      · omega
      · obtain ⟨j, rfl⟩ : ∃ j, i = j + 1 := ⟨i - 1, by have := Lib.indexByte_ge r c; rename_i hh; simp at hh; omega⟩
        have ih := splitB_some c r j (by omega)
        rw [splitB.eq_2, if_neg e, ih]
        rfl

/-- the parts of a text -/
def partsS (c : UInt8) (s : ByteArray) : List ByteArray := (splitB c s.data.toList).map fun l => ⟨l.toArray⟩
theorem ext_data (s : ByteArray) (i j : Nat) : (s.extract i j).data.toList = (s.data.toList.take j).drop i := by
  rw [ByteArray.data_extract]
  simp [List.extract_eq_take_drop, List.drop_take]
theorem ba_of (s : ByteArray) : (⟨s.data.toList.toArray⟩ : ByteArray) = s := by simp
theorem partsS_none {c : UInt8} {s : ByteArray} (h : Lib.indexByte s.data.toList c = -1) : partsS c s = [s] := by
  unfold partsS
  rw [splitB_none c _ h]
  simp
theorem partsS_some {c : UInt8} {s : ByteArray} {i : Nat} (h : Lib.indexByte s.data.toList c = (i : Int)) (hi : i < s.size) : partsS c s = s.extract 0 i :: partsS c (s.extract (i + 1) s.size) := by
  unfold partsS
  rw [splitB_some c _ i h, List.map_cons, ext_data]
  have e1 : (⟨(s.data.toList.take i).toArray⟩ : ByteArray) = s.extract 0 i := by
    apply Go.WideShapes.bytes_inj
    rw [ext_data]
    simp
  have e2 : (s.data.toList.take s.size).drop (i + 1) = s.data.toList.drop (i + 1) := by
    rw [List.take_of_length_le (by simp)]
  rw [e1, e2]
theorem index_lt {s : ByteArray} {c : UInt8} {i : Nat} (h : Lib.indexByte s.data.toList c = (i : Int)) : i < s.size := by
  have := (Lib.indexByte_some h).1
  have := (List.getElem?_eq_some_iff.1 this).1
  simpa using this
theorem partsS_size {c : UInt8} {s : ByteArray} : ∀ x ∈ partsS c s, x.size ≤ s.size := by
  have key : ∀ l, ∀ x ∈ splitB c l, x.length ≤ l.length := by
    intro l
    induction l with
    | nil => intro x hx; simp [splitB] at hx; subst hx; simp
    | cons y r ih =>
      intro x hx
      unfold splitB at hx
      split at hx
      · rcases List.mem_cons.1 hx with rfl | hx
        · simp
        · have := ih x hx; simp; omega
      · obtain ⟨h, t, e⟩ := splitB_cons c r
        rw [e] at hx ih
        rcases List.mem_cons.1 hx with rfl | hx
        · have := ih h (by simp); simp; omega
        · have := ih x (by simp at hx; simp [hx]); simp; omega
  intro x hx
  unfold partsS at hx
  obtain ⟨l, hl, rfl⟩ := List.mem_map.1 hx
  have := key _ l hl
  show l.length ≤ _
  simpa using this
theorem partsS_count {c : UInt8} {s : ByteArray} : (partsS c s).length ≤ s.size + 1 := by
  have key : ∀ l, (splitB c l).length ≤ l.length + 1 := by
    intro l
    induction l with
    | nil => simp [splitB]
    | cons y r ih =>
      unfold splitB
      split
      · simp; omega
      · obtain ⟨h, t, e⟩ := splitB_cons c r
        rw [e] at ih ⊢
        simp at ih ⊢
        omega
  unfold partsS
  rw [List.length_map]
  simpa using key s.data.toList

theorem sIndex_any (s : ByteArray) (c : UInt8) (w : World) :
    Calls Tryz.prog 120 #[.string s, .string ⟨#[c]⟩] w fun e w' => e = .returned (.int .i64 (Lib.indexByte s.data.toList c)) ∧ w' = w := by
  have HI := Lib.hid (Tryz.stringslite_Index_one s c w)
  generalize Lib.indexByte s.data.toList c = r at *
  go_enter Tryz.func120, Tryz.ntmps120
  go_wp2_with (go_at_call 162; refine HI.out.mono ?_; rintro e w1 ⟨rfl, rfl⟩)
  go_ret
  exact ⟨rfl, rfl⟩

/-- what is left in the iterator's cell, as a number -/
def leftC (B : Nat) (w : World) : Nat := match w.cell? ⟨B, 0, none⟩ with
  | some (.string s) => s.size
  | _ => 0

set_option maxHeartbeats 4000000 in
/-- the iterator of strings.SplitSeq, at one sign -/
theorem splitSeq_gives (n : Nat) (hn : 1 ≤ n) (c : UInt8) (s : ByteArray) (B : Nat) (w : World) (hs : s.size ≤ 140737488355328) (h0 : w.cell? ⟨B, 0, none⟩ = some (.string s)) (h0f : w.frozen? ⟨B, 0, none⟩ = false)
    (h1 : w.cell? ⟨B + 1, 0, none⟩ = some (.string ⟨#[c]⟩)) (h2 : w.cell? ⟨B + 2, 0, none⟩ = some (.int .i64 0)) :
    SeqC Fence.wide n Tryz.prog 197 #[.pointer (some ⟨B + 1, 0, none⟩), .pointer (some ⟨B, 0, none⟩), .pointer (some ⟨B + 2, 0, none⟩)] (fun x : ByteArray => #[.string x]) (partsS c s) B w := by
  intro l J Jx W hk hJ hJx hY hJ0
  refine callsIn_of_wp Tryz.func197 rfl trivial ?_ rfl
  simp only [Tryz.ntmps197, List.size_toArray, List.length_cons, List.length_nil, Nat.reduceAdd, Nat.reduceSub, Array.replicate_succ, Array.replicate_zero, List.push_toArray, List.append_toArray, List.nil_append, List.cons_append]
  have e0 : W.cell? ⟨B, 0, none⟩ = some (.string s) := by rw [World.cell?_of_block (w := w) (hk.2 B ⟨Nat.le_refl _, by omega⟩)]; exact h0
  have e1 : W.cell? ⟨B + 1, 0, none⟩ = some (.string ⟨#[c]⟩) := by rw [World.cell?_of_block (w := w) (hk.2 (B + 1) ⟨by omega, by omega⟩)]; exact h1
  have e2 : W.cell? ⟨B + 2, 0, none⟩ = some (.int .i64 0) := by rw [World.cell?_of_block (w := w) (hk.2 (B + 2) ⟨by omega, by omega⟩)]; exact h2
  have f0 : W.frozen? ⟨B, 0, none⟩ = false := by rw [World.frozen?_of_block (w := w) (hk.2 B ⟨Nat.le_refl _, by omega⟩)]; exact h0f
  clear h0 h0f h1 h2
  have HJ := Lib.hid hJ
  have HY := Lib.hid hY
  have HS := Lib.hid hs
  clear hJ hJx hY hs hk
  gi_wp2
  gi_loopw [] (fun wr => ∃ (pre : List ByteArray) (r : ByteArray), Aside (partsS c s = pre ++ partsS c r) ∧ r.size ≤ 140737488355328 ∧ Aside (wr.cell? ⟨B, 0, none⟩ = some (.string r) ∧ wr.frozen? ⟨B, 0, none⟩ = false ∧ wr.cell? ⟨B + 1, 0, none⟩ = some (.string ⟨#[c]⟩) ∧ wr.cell? ⟨B + 2, 0, none⟩ = some (.int .i64 0)) ∧ Aside (J pre wr))
    (fun wr => leftC B wr)
  case atStart => exact ⟨[], s, rfl, HS.out, ⟨e0, f0, e1, e2⟩, hJ0⟩
  case round =>
    clear e0 e1 e2 f0 hJ0
    obtain ⟨pre, r, HP, hr, HC, HJr⟩ := hrel
    obtain ⟨e0, f0, e1, e2⟩ := HC.out
    have HI := Lib.hid (fun W => sIndex_any r c W)
    have hge := Lib.indexByte_ge r.data.toList c
    by_cases hi : Lib.indexByte r.data.toList c = -1
    · rw [hi] at HI
      have HE := Lib.hid (partsS_none hi)
      clear hi hge
      obtain ⟨fn, tmps, assign, body, hy, hR⟩ := HY.out pre r wr HJr.out (by rw [HP.out, HE.out]; exact List.prefix_refl _)
      have HR := Lib.hid hR
      clear hR
      gi_wp2_with (refine ⟨trivial, ?_⟩; gi_at_call 120; refine (callsIn_wide.2 (HI.out _)).mono ?_; rintro e w1 ⟨rfl, rfl⟩)
      refine HR.out.mono ?_
      rintro e W' (⟨rfl, hJ', hk⟩ | ⟨rfl, hJx'⟩)
      · have HJ2 := Lib.hid hJ'
        clear hJ' hk
        gi_wp2
        go_end0
        exact ⟨⟨_, rfl⟩, .inl (by rw [HP.out, HE.out]; exact HJ2.out)⟩
      · have HJ2 := Lib.hid hJx'
        clear hJx'
        gi_wp2
        go_end0
        exact ⟨⟨_, rfl⟩, .inr ⟨pre ++ [r], by rw [HP.out, HE.out]; exact List.prefix_refl _, HJ2.out⟩⟩
    · obtain ⟨i, hi2⟩ : ∃ i : Nat, Lib.indexByte r.data.toList c = (i : Int) := ⟨(Lib.indexByte r.data.toList c).toNat, by omega⟩
      rw [hi2] at HI
      have hlt := index_lt hi2
      have HE := Lib.hid (partsS_some hi2 hlt)
      clear hi hge hi2
      obtain ⟨fn, tmps, assign, body, hy, hR⟩ := HY.out pre (r.extract 0 i) wr HJr.out (by rw [HP.out, HE.out]; exact ⟨partsS c (r.extract (i + 1) r.size), by simp⟩)
      have HR := Lib.hid hR
      clear hR
      gi_wp2_with (refine ⟨trivial, ?_⟩; gi_at_call 120; refine (callsIn_wide.2 (HI.out _)).mono ?_; rintro e w1 ⟨rfl, rfl⟩)
      refine HR.out.mono ?_
      rintro e W' (⟨rfl, hJ', hk⟩ | ⟨rfl, hJx'⟩)
      · have HJ2 := Lib.hid hJ'
        have k0 : W'.cell? ⟨B, 0, none⟩ = some (.string r) := by rw [World.cell?_of_block (w := w1) (hk.2 B ⟨Nat.le_refl _, by omega⟩)]; exact e0
        have k1 : W'.cell? ⟨B + 1, 0, none⟩ = some (.string ⟨#[c]⟩) := by rw [World.cell?_of_block (w := w1) (hk.2 (B + 1) ⟨by omega, by omega⟩)]; exact e1
        have k2 : W'.cell? ⟨B + 2, 0, none⟩ = some (.int .i64 0) := by rw [World.cell?_of_block (w := w1) (hk.2 (B + 2) ⟨by omega, by omega⟩)]; exact e2
        have g0 : W'.frozen? ⟨B, 0, none⟩ = false := by rw [World.frozen?_of_block (w := w1) (hk.2 B ⟨Nat.le_refl _, by omega⟩)]; exact f0
        have HK0 := Lib.hid k0
        have HL0 := Lib.hid e0
        clear hJ' hk e0 e1 e2 f0
        gi_wp2
        go_roundw
        case rel =>
          refine ⟨pre ++ [r.extract 0 i], r.extract (i + 1) r.size, ?_, ?_, ⟨World.cell?_setCell_same _ _ _ k0, ?_, ?_, ?_⟩, HJ.out _ _ _ HJ2.out (.set _ rfl)⟩
          · rw [HP.out, HE.out, List.append_assoc]; rfl
          · rw [ByteArray.size_extract]; omega
          · rw [World.frozen?_setCell]; exact g0
          · rw [World.cell?_setCell_other _ _ _ _ (by simp)]; exact k1
          · rw [World.cell?_setCell_other _ _ _ _ (by simp)]; exact k2
        case measure =>
          have m1 : leftC B w1 = r.size := by unfold leftC; rw [HL0.out]
          have m2 : leftC B (W'.setCell ⟨B, 0, none⟩ (.string (r.extract (i + 1) r.size))) = (r.extract (i + 1) r.size).size := by unfold leftC; rw [World.cell?_setCell_same _ _ _ HK0.out]
          rw [m1, m2, ByteArray.size_extract]
          omega
      · have HJ2 := Lib.hid hJx'
        clear hJx'
        gi_wp2
        refine bodyPost_ret (results_none rfl _ _ _) rfl ?_
        exact ⟨⟨_, rfl⟩, .inr ⟨pre ++ [r.extract 0 i], by rw [HP.out, HE.out]; exact ⟨partsS c (r.extract (i + 1) r.size), by simp⟩, HJ2.out⟩⟩

end Go.Proofs.YtelcmkccfjdmjaaGreatDoor
