/-
  Walks of package rank: the rank that is thrown, by a range over the rows backward.
  A range over a function that reads a row which the body changes: what is asked of the iterator, and the law of the statement.
  Walks of package rank: the rank that is thrown (the function itself).
-/
import Derived.Test.YtfjplphdkfiljaaDoorProg
import Derived.Test.YtfjplphdkfiljaaDoorShufB
import Derived.Test.YtfjplphdkfiljaaDoorRkD
import Derived.Sort.LoopGhostIn
import Derived.Test.YtfjplphdkfiljaaDoorRangeC
import Derived.Stop.RegionWithIn
import Derived.Laws.EntriesVeiled
import Derived.Shelf.AbstractIn
namespace Go.Proofs.YtfjplphdkfiljaaDoor
open Go Go.Proofs Go.RowKit

/-- an iterator that tells the parts, one behind the other, and leaves the world alone; R0: what it must find ahead of each part; K: the blocks that no body changes -/
def SeqR {α : Type} (F : Fence) (n : Nat) (P : Program) (g : Nat) (lb : Array Value) (encs : α → Array Value) (parts : List α) (R0 : α → World → Prop) (K : Nat → Prop) (w : World) : Prop :=
  ∀ (l : Nat) (J Jx : List α → World → Prop) (W : World), KeepX K w W → (∀ pre x W1, J pre W1 → (pre ++ [x]) <+: parts → R0 x W1) →
    (∀ pre x W1, J pre W1 → (pre ++ [x]) <+: parts → YieldAt F (n - 1) P l (encs x) W1 fun e W' =>
      (e = .returned (.bool true) ∧ J (pre ++ [x]) W' ∧ KeepX K W1 W') ∨ (e = .returned (.bool false) ∧ Jx (pre ++ [x]) W')) →
    J [] W →
    CallsIn F n P g (#[.func (.yield l) #[] #[]] ++ lb) W fun e W' => (∃ v, e = .returned v) ∧ (J parts W' ∨ ∃ pre, pre <+: parts ∧ Jx pre W')

variable {F : Fence} {n : Nat} {P : Program}

/-- the blocks that the body must leave: the kept ones, and the loop's record and marks -/
def BodyR (K : Nat → Prop) (D k : Nat) : Prop := K k ∨ k = D ∨ k = D + 1
/-- the block that turns between two rounds -/
def TurnR (D k : Nat) : Prop := k = D + 1

theorem wpIn_rangeR {α : Type} {g : Operand} {ps : Array Tmp} {assign body : Code} {Q : Exit → Act → World → Prop} {a : Act} {w : World}
    (hro : F.round = none) (h1 : 1 ≤ n) {gf : Nat} {lb : Array Value} (hg : a.eval g = .func (.func gf) #[] lb) (hFg : F.fn gf) (eg : ∀ args w, (callFunc gf args).run P w = .ok (.enter gf args) w)
    {encs : α → Array Value} {parts : List α} {R0 : α → World → Prop} {K : Nat → Prop} (hseq : SeqR F (n - 1) P gf lb encs parts R0 K w) (hB : ∀ k, K k → k < w.heap.size) (hps : ∀ x, (encs x).size = ps.size)
    (I : List α → World → Prop) (Ix : Code → List α → World → Prop)
    (hI : ∀ pre W W', I pre W → OffX (TurnR w.heap.size) W W' → I pre W') (hIx : ∀ c pre W W', Ix c pre W → OffX (TurnR w.heap.size) W W' → Ix c pre W') (h0 : I [] w) (a₁ : α → Act)
    (hassign : ∀ (l : Nat) (x : α) (W : World) (K1 : Act → World → Prop), K1 (a₁ x) W →
      assign.wpIn (F.inRound l) (n - 1 - 1) P (Exit.then K1 (fun _ _ _ => False)) { tmps := (ps.zip (encs x)).foldl (fun t (p, v) => t.setIfInBounds p v) a.tmps, defers := [] } W)
    (hread : ∀ (pre : List α) (x : α) (W : World), I pre W → (pre ++ [x]) <+: parts → R0 x W)
    (hbody : ∀ (l : Nat) (pre : List α) (x : α) (W : World), I pre W → (pre ++ [x]) <+: parts → w.heap.size + 2 ≤ W.heap.size →
      body.wpIn (F.inRound l) (n - 1 - 1) P (postC (BodyR K w.heap.size) I Ix (pre ++ [x]) W) (a₁ x) W)
    (hdone : ∀ (D : Nat) (W : World), D = w.heap.size → I parts W → W.heap[D]? = some (.deferred (some [])) → Q .normal { a with defers := { target := .collected D, args := #[] } :: a.defers } W)
    (hstop : ∀ (D : Nat) (c : Code) (pre : List α) (W : World), D = w.heap.size → pre <+: parts → Ix c pre W → W.heap[D]? = some (.deferred (some [])) → c.wpIn F n P Q { a with defers := { target := .collected D, args := #[] } :: a.defers } W) :
    (Code.rangeFunc g ps assign body).wpIn F n P Q a w := by
  refine wpIn_rangeFunc fun fn hfn => ?_
  rw [hro]
  obtain ⟨R, hR⟩ : ∃ R : LoopState → Option Code → Loop, R = fun st pe => { state := st, pending := pe, fn, tmps := a.tmps, params := ps, assign, body, defers := w.heap.size } := ⟨_, rfl⟩
  obtain ⟨D, hD⟩ : ∃ D, w.heap.size = D := ⟨_, rfl⟩
  obtain ⟨V, hV⟩ : ∃ V, V = (w.alloc (.deferred (some []))).alloc (.loop (R .ready none)) := ⟨_, rfl⟩
  have loopV : V.heap[D + 1]? = some (.loop (R .ready none)) := by
    have := World.alloc_heap_new (w.alloc (.deferred (some []))) (.loop (R .ready none))
    rw [World.size_alloc, hD] at this
    rw [hV]; exact this
  have markV : V.heap[D]? = some (.deferred (some [])) := by
    have := World.alloc_heap_new w (.deferred (some []))
    rw [hD] at this
    rw [hV, Below.heap_alloc _ _ _ (by rw [World.size_alloc]; omega)]
    exact this
  have growV : Below w.heap.size w V := by rw [hV]; exact ((Below.refl _ w).alloc (Nat.le_refl _) _).alloc (by simp) _
  have sizeV : V.heap.size = D + 2 := by rw [hV]; simp; omega
  have isR : ∀ st pe, (R st pe).params = ps ∧ (R st pe).tmps = a.tmps ∧ (R st pe).fn = fn ∧ (R st pe).assign = assign ∧ (R st pe).body = body ∧ (R st pe).state = st ∧ (R st pe).pending = pe := fun st pe => by rw [hR]; exact ⟨rfl, rfl, rfl, rfl, rfl, rfl, rfl⟩
  refine ⟨D + 1, [{ target := .collected D, args := #[] }], V, { target := .fn (.func gf) lb, args := #[.func (.yield (D + 1)) #[] #[]] }, V, gf, #[.func (.yield (D + 1)) #[] #[]] ++ lb, V, ?_, ?_, ?_, ?_, fun _ => h1, ?_⟩
  · have := run_enterLoop_outer (P := P) (w := w) fn a.tmps ps assign body
    rw [this, hV, hR, hD]
  · simp only [resolve, hg]
    simp [go_sem]
  · intro f' hf'
    simp [Target.leads] at hf'
    subst hf'
    exact hFg
  · simp [invoke, go_sem, eg]
  · rw [hD] at hI hIx hbody hdone hstop hB growV
    refine (hseq (D + 1) (fun pre W => I pre W ∧ W.heap[D + 1]? = some (.loop (R .ready none)) ∧ W.heap[D]? = some (.deferred (some [])))
      (fun pre W => ∃ c, Ix c pre W ∧ W.heap[D + 1]? = some (.loop (R .done (some c))) ∧ W.heap[D]? = some (.deferred (some [])))
      V ⟨growV.size, fun k hk => growV.block k (by have := hB k hk; omega)⟩ ?_ ?round ⟨hI _ _ _ h0 (.of_below (by rw [hD]; exact growV)), loopV, markV⟩).mono ?_
    · rintro pre x W1 ⟨hi, hl, hk⟩ hpx
      exact hread pre x W1 hi hpx
    case round =>
      rintro pre x W ⟨hi, hl, hk⟩ hpx
      have hlt : D + 1 < W.heap.size := (Array.getElem?_eq_some_iff.1 hl).1
      obtain ⟨e1, e2, e3, e4, e5, e6, e7⟩ := isR .ready none
      have hy := run_yield (P := P) (args := encs x) hl (by rw [e1]; exact hps x)
      rw [e1, e2, e3, e4, e5] at hy
      refine ⟨fn, _, assign, body, hy, roundIn_of_wpIn hfn (hassign _ x W _ ⟨_, run_beginRound hl e6, ?_⟩)⟩
      obtain ⟨Wb, hWb⟩ : ∃ Wb, Wb = W.putObj (D + 1) (.loop { R .ready none with state := .busy }) := ⟨_, rfl⟩
      rw [← hWb]
      have hlb : Wb.heap[D + 1]? = some (.loop { R .ready none with state := .busy }) := by rw [hWb]; exact World.putObj_heap_same hlt
      have hkb : Wb.heap[D]? = some (.deferred (some [])) := by rw [hWb]; exact (World.putObj_heap_other (by omega)).trans hk
      have hob : OffX (TurnR D) W Wb := by rw [hWb]; exact .put _ rfl
      have hsb : W.heap.size ≤ Wb.heap.size := hob.size
      have hkx : KeepX (K) W Wb := ⟨hsb, fun k hk => by
        rw [hWb]; exact World.putObj_heap_other (by have := hB k hk; omega)⟩
      refine wpIn_mono (hbody _ pre x Wb (hI _ _ _ hi hob) hpx (by omega)) ?_
      have fin : ∀ (jump : Option Code) (W3 : World), KeepX (BodyR K D) Wb W3 → ∃ W4, (Instr.endRound (D + 1) jump).run P W3 = .ok (.bool jump.isNone) W4 ∧ OffX (TurnR D) W3 W4 ∧ KeepX (K) W W4 ∧
          W4.heap[D + 1]? = some (.loop (R (if jump.isNone then .ready else .done) jump)) ∧ W4.heap[D]? = some (.deferred (some [])) := by
        intro jump W3 hk3
        have hl3 : W3.heap[D + 1]? = some (.loop { R .ready none with state := .busy }) := (hk3.2 _ (.inr (.inr rfl))).trans hlb
        have hd3 : W3.heap[D]? = some (.deferred (some [])) := (hk3.2 _ (.inr (.inl rfl))).trans hkb
        have he := run_endRound (P := P) jump hl3
        refine ⟨_, he, .put _ rfl, hkx.trans ((hk3.mono fun k h => .inl h).trans ⟨(OffX.put (X := TurnR D) _ rfl).size, fun k hk => World.putObj_heap_other (by have := hB k hk; omega)⟩), ?_, (World.putObj_heap_other (by omega)).trans hd3⟩
        rw [World.putObj_heap_same (Array.getElem?_eq_some_iff.1 hl3).1, hR]
      rintro e a3 W3 hp
      cases e with
      | normal =>
        obtain ⟨hk3, hi3⟩ := hp
        obtain ⟨W4, r1, r2, r3, r4, r5⟩ := fin none W3 hk3
        exact ⟨_, _, r1, .inl ⟨rfl, ⟨hI _ _ _ hi3 r2, r4, r5⟩, r3⟩⟩
      | ret =>
        obtain ⟨hk3, hi3⟩ := hp
        obtain ⟨W4, r1, r2, r3, r4, r5⟩ := fin (some .ret) W3 hk3
        exact ⟨_, _, r1, .inr ⟨rfl, .ret, hIx _ _ _ _ hi3 r2, r4, r5⟩⟩
      | exit id =>
        obtain ⟨hk3, hi3⟩ := hp
        obtain ⟨W4, r1, r2, r3, r4, r5⟩ := fin (some (.exit id)) W3 hk3
        exact ⟨_, _, r1, .inr ⟨rfl, .exit id, hIx _ _ _ _ hi3 r2, r4, r5⟩⟩
      | goto t =>
        obtain ⟨hk3, hi3⟩ := hp
        obtain ⟨W4, r1, r2, r3, r4, r5⟩ := fin (some (.goto t)) W3 hk3
        exact ⟨_, _, r1, .inr ⟨rfl, .goto t, hIx _ _ _ _ hi3 r2, r4, r5⟩⟩
      | panic ch => exact hp.elim
      | outgrown => exact hp.elim
    · rintro e W2 ⟨⟨v, rfl⟩, ⟨hi, hl, hk⟩ | ⟨pre, hpp, c, hi, hl, hk⟩⟩
      · obtain ⟨e1, e2, e3, e4, e5, e6, e7⟩ := isR .ready none
        have he := run_endLoop (P := P) hl (by rw [e6]; simp)
        rw [e7] at he
        exact ⟨none, _, he, hdone D _ rfl (hI _ _ _ hi (.put _ rfl)) ((World.putObj_heap_other (by omega)).trans hk)⟩
      · obtain ⟨e1, e2, e3, e4, e5, e6, e7⟩ := isR .done (some c)
        have he := run_endLoop (P := P) hl (by rw [e6]; simp)
        rw [e7] at he
        exact ⟨some c, _, he, hstop D c pre _ rfl hpp (hIx _ _ _ _ hi (.put _ rfl)) ((World.putObj_heap_other (by omega)).trans hk)⟩

end Go.Proofs.YtfjplphdkfiljaaDoor

namespace Go.Proofs.YtfjplphdkfiljaaDoor
open Go Go.Proofs Go.RowKit Go.Shelf Go.Sort
attribute [local go_sem] Oper.semAt_some

/-- what is told: each place, from the last one down, with what lies there then -/
def bwdK : Nat → Int → List Int → List (Nat × Int)
  | 0, _, _ => []
  | i + 1, s, l => (i, l.getD i 0) :: (if i = 0 then [] else bwdK i (nxS s) (swapL l i (kxS (nxS s) i)))
theorem bwdK_zero (s : Int) (l : List Int) : bwdK 0 s l = [] := rfl
theorem bwdK_one (s : Int) (l : List Int) : bwdK 1 s l = [(0, l.getD 0 0)] := rfl
theorem bwdK_more {i : Nat} (h : 1 ≤ i) (s : Int) (l : List Int) : bwdK (i + 1) s l = (i, l.getD i 0) :: bwdK i (nxS s) (swapL l i (kxS (nxS s) i)) := by
  rw [bwdK, if_neg (by omega)]
theorem bwdK_length : ∀ (i : Nat) (s : Int) (l : List Int), (bwdK i s l).length = i
  | 0, _, _ => rfl
  | 1, _, _ => rfl
  | i + 2, s, l => by rw [bwdK_more (by omega), List.length_cons, bwdK_length (i + 1)]
theorem bwdK_at : ∀ (n : Nat) (s : Int) (l : List Int) (pre : List (Nat × Int)) (x : Nat × Int), (pre ++ [x]) <+: bwdK n s l → x.1 + pre.length + 1 = n
  | 0, s, l, pre, x, h => by have := h.length_le; simp [bwdK] at this
  | 1, s, l, pre, x, h => by
    rw [bwdK_one] at h
    cases pre with
    | nil => obtain ⟨t, e⟩ := h; simp at e; obtain ⟨rfl, -⟩ := e; first | rfl | simp
    | cons a r => have := h.length_le; simp at this
  | i + 2, s, l, pre, x, h => by
    rw [bwdK_more (by omega)] at h
    cases pre with
    | nil => obtain ⟨t, e⟩ := h; simp at e; obtain ⟨rfl, -⟩ := e; rfl
    | cons a r =>
      obtain ⟨t, e⟩ := h
      simp only [List.cons_append, List.cons.injEq] at e
      have := bwdK_at (i + 1) _ _ r x ⟨t, by rw [← e.2]⟩
      simp
      omega

/-- what the iterator must find ahead of a round -/
def BackAt (ao : Option Addr) (x : Nat × Int) (W : World) : Prop := ∃ g, ao = some ⟨g, 0, none⟩ ∧ W.cell? ⟨g, x.1, none⟩ = some (.int .i64 x.2)

set_option maxHeartbeats 4000000 in
/-- the iterator of slices.Backward -/
theorem backward_gives (n : Nat) (hn : 1 ≤ n) (ao : Option Addr) (len cap B : Nat) (parts : List (Nat × Int)) (w : World) (hN : len ≤ 1000000) (hlen : parts.length = len) (hat : ∀ pre x, (pre ++ [x]) <+: parts → x.1 + pre.length + 1 = len)
    (h0 : w.cell? ⟨B, 0, none⟩ = some (.slice ao len cap)) :
    SeqR Fence.wide n Tryd.prog 134 #[.pointer (some ⟨B, 0, none⟩)] (fun x : Nat × Int => #[.int .i64 x.1, .int .i64 x.2]) parts (BackAt ao) (· = B) w := by
  intro l J Jx W hk hR0 hY hJ0
  refine callsIn_of_wp Tryd.func134 rfl trivial ?_ rfl
  simp only [Tryd.ntmps134, List.size_toArray, List.length_cons, List.length_nil, Nat.reduceAdd, Nat.reduceSub, Array.replicate_succ, Array.replicate_zero, List.push_toArray, List.append_toArray, List.nil_append, List.cons_append]
  have e0 : W.cell? ⟨B, 0, none⟩ = some (.slice ao len cap) := by rw [World.cell?_of_block (w := w) (hk.2 B rfl)]; exact h0
  clear h0
  have HY := Lib.hid hY
  have HR0 := Lib.hid hR0
  have HAT := Lib.hid hat
  clear hY hk hR0 hat
  gi_wp2
  gi_loopg [3] len (fun gg vi wr => ∃ (pre : List (Nat × Int)) (m : Nat), pre <+: parts ∧ pre.length + m = len ∧ m ≤ gg ∧ vi = .int .i64 ((m : Int) - 1) ∧ Aside (wr.cell? ⟨B, 0, none⟩ = some (.slice ao len cap)) ∧ Aside (J pre wr))
  case atStart => exact ⟨[], len, List.nil_prefix, by simp, Nat.le_refl _, rfl, e0, hJ0⟩
  case round =>
    clear e0 hJ0
    obtain ⟨pre, m, hpp, hm, hgg, rfl, HE, HJ⟩ := hrel
    have e0 := HE.out
    cases m with
    | zero =>
      have hpe : pre = parts := hpp.eq_of_length (by omega)
      gi_wp2
      go_end0
      exact ⟨⟨_, rfl⟩, .inl (by rw [← hpe]; exact HJ.out)⟩
    | succ i =>
      have hx : ∃ x, (pre ++ [x]) <+: parts := by
        obtain ⟨t, rfl⟩ := hpp
        cases t with
        | nil => simp at hlen; omega
        | cons a t => exact ⟨a, t, by simp⟩
      obtain ⟨⟨xi, xv⟩, hpx⟩ := hx
      obtain rfl : i = xi := by have := HAT.out pre (xi, xv) hpx; simp only at this; omega
      obtain ⟨g, rfl, c1⟩ := HR0.out pre (i, xv) wr HJ.out hpx
      obtain ⟨fn, tmps, assign, body, hy, hR⟩ := HY.out pre (i, xv) wr HJ.out hpx
      dsimp only at c1 hy
      have HR := Lib.hid hR
      clear hR
      have hii : ((i + 1 : Nat) : Int) - 1 = (i : Int) := by omega
      rw [hii]
      have hi0 : (0 : Int) ≤ (i : Int) := by omega
      have hil : (i : Int) < (len : Int) := by omega
      gi_wp2
      refine HR.out.mono ?_
      rintro e W' (⟨rfl, hJ', hk⟩ | ⟨rfl, hJx'⟩)
      · have HJ2 := Lib.hid hJ'
        have k0 : W'.cell? ⟨B, 0, none⟩ = some (.slice (some ⟨g, 0, none⟩) len cap) := by rw [World.cell?_of_block (w := wr) (hk.2 B rfl)]; exact e0
        clear hJ' hk e0
        gi_wp2
        gi_roundg i
        case rel => exact ⟨pre ++ [(i, xv)], i, hpx, by simp; omega, Nat.le_refl _, by go_num, k0, HJ2.out⟩
        case measure => omega
      · have HJ2 := Lib.hid hJx'
        clear hJx'
        gi_wp2
        refine bodyPost_ret (results_none rfl _ _ _) rfl ?_
        exact ⟨⟨_, rfl⟩, .inr ⟨pre ++ [(i, xv)], hpx, HJ2.out⟩⟩


end Go.Proofs.YtfjplphdkfiljaaDoor

namespace Go.Proofs.YtfjplphdkfiljaaDoor
open Go Go.Proofs Go.RowKit Go.Shelf Go.Sort
attribute [local go_sem] Oper.semAt_some

/-- a region without a defer goes in a round as it goes outside -/
theorem wpOpIn_inRound {F : Fence} {n : Nat} {P : Program} {ops : Array Oper} {Q : Exit → Act → World → Prop} {i l : Nat} {K : Act → World → Prop} {a : Act} {w : World} (hro : F.round = none) (hd : ∀ o ∈ ops.toList, ∀ c, o.op ≠ .defer c)
    (h : wpOpIn F n P ops Q i K a w) : wpOpIn (F.inRound l) n P ops Q i K a w := by
  unfold wpOpIn at *
  cases ho : ops[i]? with
  | none => rw [ho] at h; exact h
  | some o =>
    rw [ho] at h
    have hm : o ∈ ops.toList := by rw [Array.mem_toList_iff]; exact Array.mem_of_getElem? ho
    simp only at h ⊢
    split
    · rename_i hw
      rw [if_pos hw] at h
      unfold Oper.wpIn at *
      refine ⟨h.1, ?_⟩
      have h2 := h.2
      rw [Oper.semAt_eq _ _ _ (hd o hm)] at h2 ⊢
      generalize (execOp a.eval o).run P w = r at *
      cases r with
      | ok x w' => cases x <;> exact h2
      | halt x w' => cases x <;> exact h2
    · rename_i hw
      rw [if_neg hw] at h
      exact h
theorem wpAnyIn_inRound {F : Fence} {n : Nat} {P : Program} {md : Region.Mode} {ops : Array Oper} {Q : Exit → Act → World → Prop} {l : Nat} (hro : F.round = none) (hd : ∀ o ∈ ops.toList, ∀ c, o.op ≠ .defer c) :
    ∀ (fuel : Nat) (listed : Array Bool) (a : Act) (w : World), wpAnyIn F n P md ops Q fuel listed a w → wpAnyIn (F.inRound l) n P md ops Q fuel listed a w
  | 0, _, _, _, h => h
  | fuel + 1, listed, a, w, h => ⟨h.1, fun i hi => wpOpIn_mono (fun a w h => wpAnyIn_inRound hro hd fuel _ a w h) (wpOpIn_inRound hro hd (h.2 i hi))⟩
def noDeferB (ops : List Oper) : Bool := ops.all fun o => match o.op with | .defer _ => false | _ => true
theorem noDeferB_spec {ops : List Oper} (h : noDeferB ops = true) : ∀ o ∈ ops, ∀ c, o.op ≠ .defer c := by
  intro o ho c e
  unfold noDeferB at h
  have := List.all_eq_true.1 h o ho
  rw [e] at this
  cases this
theorem wpIn_region_round {F : Fence} {n : Nat} {P : Program} {ops : Array Oper} {Q : Exit → Act → World → Prop} {id l : Nat} {a : Act} {w : World} (hro : F.round = none) (hd : noDeferB ops.toList = true) (hm : P.follows .mixedOrders = true)
    (h : wpAnyIn F n P .any ops Q ops.size (Array.replicate ops.size false) a w.drew) : (Code.region id ops true).wpIn (F.inRound l) n P Q a w :=
  wpIn_region_any hm (wpAnyIn_inRound hro (noDeferB_spec hd) _ _ _ _ h)

theorem Backward_any (ao : Option Addr) (n cap : Nat) (w : World) : Calls Tryd.prog 109 #[.slice ao n cap] w fun e w' => e = .returned (.func (.func 134) #[] #[.pointer (some ⟨w.heap.size, 0, none⟩)]) ∧ w' = w.alloc (.cells #[.slice ao n cap] 69) := by
  go_enter Tryd.func109, Tryd.ntmps109
  go_wp2
  go_ret
  exact ⟨rfl, rfl⟩

theorem owns_offX {X : Nat → Prop} {w w' : World} {base : Nat} {e : TypeId} {size n : Nat} {v : Value} {xs : List Value} (h : w.ownsRow base e size v n xs) (hb : OffX X w w') (hX : ∀ k, v.ownBlock = some k → ¬ X k) : w'.ownsRow base e size v n xs := by
  refine ⟨h.1, ?_⟩
  rcases h.2 with h2 | ⟨g, cap, cur, hv, hbg, hg, r⟩
  · exact .inl h2
  · exact .inr ⟨g, cap, cur, hv, hbg, by rw [hb.block g (Array.getElem?_eq_some_iff.1 hg).1 (hX g (by rw [hv]; rfl))]; exact hg, r⟩

theorem bwdK_next {pre parts : List (Nat × Int)} {x : Nat × Int} {m : Nat} {s : Int} {c : List Int} (h1 : parts = pre ++ bwdK m s c) (hp : (pre ++ [x]) <+: parts) :
    ∃ j, m = j + 1 ∧ x = (j, c.getD j 0) ∧ parts = (pre ++ [x]) ++ (if j = 0 then [] else bwdK j (nxS s) (swapL c j (kxS (nxS s) j))) := by
  cases m with
  | zero =>
    have := hp.length_le
    rw [h1] at this
    simp [bwdK] at this
    omega
  | succ j =>
    obtain ⟨t, e⟩ := hp
    rw [h1, bwdK, List.append_assoc, List.append_cancel_left_eq] at e
    have e1 : x = (j, c.getD j 0) := (List.cons.inj e).1
    refine ⟨j, rfl, e1, ?_⟩
    rw [h1, bwdK, e1]
    simp

/-- between two rounds: H: the box of the seed; O: the cell of the row; the closure's cell behind it -/
def ShI (w : World) (O n : Nat) (v : Value) (r : List Int) (parts : List (Nat × Int)) (pre : List (Nat × Int)) (W : World) : Prop :=
  ∃ (m : Nat) (s : Int) (c : List Int), (parts = pre ++ bwdK m s c ∧ r = shufK (m - 1) s c ∧ 0 ≤ s ∧ m ≤ n) ∧ W.cell? ⟨w.heap.size, 0, none⟩ = some (.int .u64 s) ∧ W.frozen? ⟨w.heap.size, 0, none⟩ = false ∧ W.cell? ⟨O, 0, none⟩ = some v ∧
    W.cell? ⟨O + 1, 0, none⟩ = some (.func (.func 108) #[] #[.pointer (some ⟨O, 0, none⟩)]) ∧ W.ownsRow (w.heap.size + 1) 3 1 v n (c.map encI) ∧ Below w.heap.size w W ∧ O + 3 ≤ W.heap.size
theorem ShI.turn {w : World} {O n : Nat} {v : Value} {r : List Int} {parts pre : List (Nat × Int)} {W W' : World} (h : ShI w O n v r parts pre W) (hO : w.heap.size < O) (hv : ∀ k, v.ownBlock = some k → k < O) (ho : OffX (TurnR (O + 3)) W W') : ShI w O n v r parts pre W' := by
  obtain ⟨m, s, c, h1, h2, h3, h4, h5, h6, h7, h8⟩ := h
  have n0 : ∀ j, j < O + 2 → ¬ TurnR (O + 3) j := fun j hj e => by unfold TurnR at e; omega
  refine ⟨m, s, c, h1, ho.cell h2 (n0 _ (by show w.heap.size < O + 2; omega)), ?_, ho.cell h4 (n0 _ (by show O < O + 2; omega)), ho.cell h5 (n0 _ (by show O + 1 < O + 2; omega)), owns_offX h6 ho (fun k e => n0 k (by have := hv k e; omega)), h7.trans (ho.below h7.size (fun k e => by unfold TurnR at e; omega)), Nat.le_trans h8 ho.size⟩
  exact (ho.frozen (p := ⟨w.heap.size, 0, none⟩) (show w.heap.size < _ by omega) (n0 _ (by show w.heap.size < O + 2; omega))).trans h3

set_option maxRecDepth 100000 in
set_option maxHeartbeats 4000000 in
theorem Shuffle_any (n s : Int) (w : World) (hs : 0 ≤ s ∧ s < 18446744073709551616) : Calls Tryd.prog 69 #[.int .i64 n, .int .u64 s] w (IntsPost w (shufL n s)) := by
  have HP := Lib.hid (fun W => Plain_any n W)
  have HBK := Lib.hid (fun ao n cap W => Backward_any ao n cap W)
  have hpl := plainL_le n
  have HR := Lib.hid (show shufL n s = shufK ((plainL n).length - 1) s (plainL n) from rfl)
  have HLR := Lib.hid (show (shufL n s).length = (plainL n).length by unfold shufL; rw [shufK_length])
  generalize shufL n s = r at *
  generalize plainL n = p at *
  have HS0 := Lib.hid hs.1
  clear hs
  refine (callsIn_wide (n := 4)).1 (callsIn_of_wp_marks Tryd.func69 rfl trivial (wpIn_wide.2 ?_) rfl)
  simp only [Tryd.ntmps69, List.size_toArray, List.length_cons, List.length_nil, Nat.reduceAdd, Nat.reduceSub, Array.replicate_succ, Array.replicate_zero, List.push_toArray, List.append_toArray, List.nil_append, List.cons_append]
  go_wp2_with (first
    | (go_at_call 67; refine (HP.out _).mono ?_; rintro e w1 ⟨v, rfl, HO, HB⟩; obtain ⟨ao, cap, rfl, -⟩ := Cel.of_owns HO.out)
    | (go_at_call 109; refine (HBK.out _ _ _ _).mono ?_; rintro e w2 ⟨rfl, rfl⟩))
  have HV := Lib.hid (fun k e => (HO.out.lt k e))
  have hz1 : w.heap.size + 1 ≤ w1.heap.size := by have := HB.out.size; simp at this; exact this
  obtain ⟨Wl, hWl, hz, hI0, hbox⟩ : ∃ Wl, Wl = ((w1.alloc (Obj.cells #[.slice ao p.length cap] 69)).alloc (Obj.cells #[.func (.func 108) #[] #[.pointer (some ⟨w1.heap.size, 0, none⟩)]] 124)).alloc (Obj.cells #[.slice ao p.length cap] 69) ∧ Wl.heap.size = w1.heap.size + 3 ∧
      ShI w w1.heap.size p.length (.slice ao p.length cap) r (bwdK p.length s p) [] Wl ∧ Wl.cell? ⟨w1.heap.size + 2, 0, none⟩ = some (.slice ao p.length cap) := by
    have h0 : w1.cell? ⟨w.heap.size, 0, none⟩ = some (.int .u64 s) := (HB.out.cell (p := ⟨w.heap.size, 0, none⟩) (by show w.heap.size < _; simp)).trans (by go_simp)
    have h0f : w1.frozen? ⟨w.heap.size, 0, none⟩ = false := (HB.out.frozen (p := ⟨w.heap.size, 0, none⟩) (by show w.heap.size < _; simp)).trans (by go_simp)
    refine ⟨_, rfl, by simp, ⟨p.length, s, p, ⟨by simp, HR.out, HS0.out, Nat.le_refl _⟩, ?_, ?_, by go_simp, by go_simp, ?_, ?_, by simp⟩, by go_simp⟩
    · exact cell_later ((Below.of_al _ _).al _ |>.al _) h0
    · exact (((Below.of_al _ _).al _ |>.al _).frozen (p := ⟨w.heap.size, 0, none⟩) (show w.heap.size < _ by omega)).trans h0f
    · have := ((HO.out.alloc (Obj.cells #[.slice ao p.length cap] 69)).alloc (Obj.cells #[.func (.func 108) #[] #[.pointer (some ⟨w1.heap.size, 0, none⟩)]] 124)).alloc (Obj.cells #[.slice ao p.length cap] 69)
      rw [World.size_alloc] at this
      exact this
    · exact ((((Below.of_al w _).trans (HB.out.mono (by simp))).al _).al _).al _
  rw [← hWl]
  clear hWl HBK HP
  have HZ := Lib.hid hz
  have HSEQ := Lib.hid (backward_gives 3 (by decide) ao p.length cap (w1.heap.size + 2) (bwdK p.length s p) Wl (by omega) (bwdK_length _ _ _) (fun pre x h => bwdK_at _ _ _ pre x h) hbox)
  have HI0 := Lib.hid hI0
  have hBlt : ∀ k, k = w1.heap.size + 2 → k < Wl.heap.size := fun k e => by omega
  have HVL := Lib.hid (fun k (e : (Value.slice ao p.length cap).ownBlock = some k) => (show k < w1.heap.size from (HV.out k e).2))
  have HLP := Lib.hid (bwdK_length p.length s p)
  clear hz hI0 hbox HV HO HB HR
  generalize bwdK p.length s p = parts at *
  refine (wpIn_wide (n := 4)).1 (wpIn_rangeR rfl (by decide) (gf := 134) rfl trivial (enters_of Tryd.func134 (by kernel_rfl) rfl) HSEQ.out hBlt (fun _ => rfl) (ShI w w1.heap.size p.length (.slice ao p.length cap) r parts) (fun _ _ _ => False)
    (fun pre W W' h ho => by rw [HZ.out] at ho; exact h.turn (by omega) HVL.out ho) (fun _ _ _ _ h _ => h) HI0.out
    (fun x => { tmps := #[.int .i64 n, .int .u64 s, undef, .pointer (some ⟨w.heap.size, 0, none⟩), .slice none 0 0, .pointer (some ⟨w1.heap.size, 0, none⟩), .pointer (some ⟨w1.heap.size + 1, 0, none⟩), .int .i64 x.1, .int .i64 n, .slice ao p.length cap,
      .func (.func 108) #[] #[.pointer (some ⟨w1.heap.size, 0, none⟩)], .slice ao p.length cap, .func (.func 134) #[] #[.pointer (some ⟨w1.heap.size + 1 + 1, 0, none⟩)], .int .i64 x.1, .int .i64 x.2,
      undef, undef, undef, undef, undef, undef, undef, undef, undef, undef, undef, undef, undef, undef, undef, undef], defers := [] }) ?assign ?read ?body ?done ?stop)
  case assign =>
    intro l x W K hK
    gi_wp2
    exact hK
  case stop => rintro D c pre W hD0 hpp hf; exact hf.elim
  case read =>
    rintro pre x W ⟨m, s', c, ⟨h1, -, -, hmn⟩, h2, h3, h4, h5, h6, h7, h8⟩ hpx
    obtain ⟨j, rfl, rfl, -⟩ := bwdK_next h1 hpx
    obtain ⟨g, cap', e⟩ := own_some h6 (by omega)
    cases e
    have hr : RowC W (w.heap.size + 1) g p.length cap c := h6
    have hlc := hr.len
    exact ⟨g, rfl, hr.cell (by rw [List.getD_eq_getElem?_getD, List.getElem?_eq_getElem (by omega)]; rfl)⟩
  case body =>
    rintro l pre x W ⟨m, s', c, ⟨h1, hr, hs0, hmn⟩, h2, h3, h4, h5, h6, h7, h8⟩ hpx hsz
    obtain ⟨j, rfl, rfl, h9⟩ := bwdK_next h1 hpx
    obtain ⟨g, cap', e⟩ := own_some h6 (by omega)
    cases e
    have HRW := Lib.hid (show RowC W (w.heap.size + 1) g p.length cap c from h6)
    have hgO : g < w1.heap.size := HVL.out g rfl
    have hgb : w.heap.size + 1 ≤ g := HRW.out.base.1
    have HB := Lib.hid h7
    have HN := Lib.hid h9
    have HRR := Lib.hid hr
    clear h7 h9 hr h6 h1 hpx
    by_cases hi : 1 ≤ j
    · have hi2 : (0 : Int) < (j : Int) := by omega
      have HST := Lib.hid (HRR.out.trans (show shufK (j + 1 - 1) s' c = _ from shufK_step hi s' c))
      have HN2 := Lib.hid (show parts = (pre ++ [(j, c.getD j 0)]) ++ bwdK j (nxS s') (swapL c j (kxS (nxS s') j)) by rw [HN.out, if_neg (by omega)])
      have hb1 := (nxS_b s').1
      obtain ⟨A4, A5⟩ := kxS_eq hb1 j
      have A1 : IntKind.u64.wrap (IntKind.u64.wrap (s' * 6364136223846793005) + 1442695040888963407) = nxS s' := rfl
      generalize nxS s' = b at *
      generalize kxS b j = k at *
      generalize c.getD j 0 = xv at *
      have A3 : IntKind.u64.wrap ((j : Int) + 1) = (j : Int) + 1 := by rw [IntKind.wrap_u64]; omega
      have A2 : IntKind.i64.wrap ((j : Int) + 1) = (j : Int) + 1 := IntWalk.i64_in _ (by omega)
      have A7 : IntKind.i64.wrap (k : Int) = (k : Int) := IntWalk.i64_in _ (by omega)
      have A8 : ((j : Int) + 1 = 0) = False := eq_false (show ¬ (j : Int) + 1 = 0 by omega)
      have A6 : ((j : Int) + 1 == 0) = false := by rw [beq_eq_false_iff_ne]; omega
      have HSW := Lib.hid (fun W h h' => shufSwap_any (w.heap.size + 1) w1.heap.size g p.length cap j k c W (by omega) (by omega) (by omega) (by omega) h h')
      clear HRR HN hi
      gi_wp2
      obtain ⟨W2, hW2, HC2, HF2, HO2, HP2, HR2, HB2, HS2, HK2⟩ : ∃ W2, W2 = W.setCell ⟨w.heap.size, 0, none⟩ (.int .u64 b) ∧ W2.cell? ⟨w.heap.size, 0, none⟩ = some (.int .u64 b) ∧ W2.frozen? ⟨w.heap.size, 0, none⟩ = false ∧ W2.cell? ⟨w1.heap.size, 0, none⟩ = some (.slice (some ⟨g, 0, none⟩) p.length cap) ∧
          W2.cell? ⟨w1.heap.size + 1, 0, none⟩ = some (.func (.func 108) #[] #[.pointer (some ⟨w1.heap.size, 0, none⟩)]) ∧ Aside (RowC W2 (w.heap.size + 1) g p.length cap c) ∧ Aside (Below w.heap.size w W2) ∧ W2.heap.size = W.heap.size ∧ Aside (∀ k, k ≠ w.heap.size → W2.heap[k]? = W.heap[k]?) :=
        ⟨_, rfl, World.cell?_setCell_same _ _ _ h2, by rw [World.frozen?_setCell]; exact h3, by rw [World.cell?_setCell_other _ _ _ _ (by simp <;> omega)]; exact h4, by rw [World.cell?_setCell_other _ _ _ _ (by simp <;> omega)]; exact h5, ownsRow_setCell_below HRW.out (a := ⟨w.heap.size, 0, none⟩) (by simp) _, HB.out.setCell (Nat.le_refl _) _, by simp [World.setCell], fun k hk => Below.heap_setCell _ _ _ _ hk⟩
      rw [← hW2]
      clear hW2 h2 h3 h4 h5 HB HRW
      have HSW2 := Lib.hid (HSW.out W2.drew HO2 HR2.out.drew)
      clear HSW
      refine wpIn_region_round (F := Fence.wide) rfl (by kernel_rfl) (by kernel_rfl) ?_
      refine wpAnyIn_take (i := 1) (v := ?_) rfl rfl (by kernel_rfl) (by kernel_rfl) (by kernel_rfl) (fun _ _ _ h => h) ⟨Or.inl ⟨by rfl, ?_⟩, fun _ => rfl⟩ ?_
      rotate_left 1
      · (intro w9; go_simp; try (with_reducible rfl))
      refine wpAnyIn_take (i := 4) (v := ?_) rfl rfl (by kernel_rfl) (by kernel_rfl) (by kernel_rfl) (fun _ _ _ h => h) ⟨Or.inl ⟨by rfl, ?_⟩, fun _ => rfl⟩ ?_
      rotate_left 1
      · (intro w9; go_simp; try (with_reducible rfl))
      refine wpAnyIn_take (i := 5) (v := ?_) rfl rfl (by kernel_rfl) (by kernel_rfl) (by kernel_rfl) (fun _ _ _ h => h) ⟨Or.inl ⟨by rfl, ?_⟩, fun _ => rfl⟩ ?_
      rotate_left 1
      · (intro w9; go_simp; try (with_reducible rfl))
      refine wpAnyIn_take (i := 6) (v := ?_) rfl rfl (by kernel_rfl) (by kernel_rfl) (by kernel_rfl) (fun _ _ _ h => h) ⟨Or.inl ⟨by rfl, ?_⟩, fun _ => rfl⟩ ?_
      rotate_left 1
      · (intro w9; go_simp; try (with_reducible rfl))
      refine wpAnyIn_ready (rs := [0, 2]) (by kernel_rfl) (by simp) ?_
      refine AllReadyIn.cons rfl (fun K hK => ?_) (AllReadyIn.cons rfl (fun K hK => ?_) AllReadyIn.nil)
      · go_simp
        refine hK _ _ ?_
        clear hK K
        refine wpAnyIn_ready (rs := [2]) (by kernel_rfl) (by simp) ?_
        refine AllReadyIn.cons rfl (fun K hK => ?_) AllReadyIn.nil
        go_simp
        refine hK _ _ ?_
        clear hK K
        refine wpAnyIn_take (i := 3) (v := ?_) rfl rfl (by kernel_rfl) (by kernel_rfl) (by kernel_rfl) (fun _ _ _ h => h) ⟨Or.inl ⟨by rfl, ?_⟩, fun _ => rfl⟩ ?_
        rotate_left 1
        · (intro w9; go_simp; try (with_reducible rfl))
        refine wpAnyIn_take (i := 7) (v := ?_) rfl rfl (by kernel_rfl) (by kernel_rfl) (by kernel_rfl) (fun _ _ _ h => h) ⟨Or.inl ⟨by rfl, ?_⟩, fun _ => rfl⟩ ?_
        rotate_left 1
        · (intro w9; go_simp; try (with_reducible rfl))
        refine wpAnyIn_take (i := 8) (v := ?_) rfl rfl (by kernel_rfl) (by kernel_rfl) (by kernel_rfl) (fun _ _ _ h => h) ⟨Or.inl ⟨by rfl, ?_⟩, fun _ => rfl⟩ ?_
        rotate_left 1
        · (intro w9; go_simp; try (with_reducible rfl))
        refine wpAnyIn_ready (rs := [9]) (by kernel_rfl) (by simp) ?_
        refine AllReadyIn.cons rfl (fun K hK => ?_) AllReadyIn.nil
        go_simp
        refine ⟨trivial, (callsIn_wide.2 HSW2.out).mono ?_⟩
        rintro e w3 ⟨⟨v3, rfl⟩, HR3, HG3⟩
        refine hK _ _ ?_
        clear hK K
        refine wpAnyIn_done (by kernel_rfl) ?_ _
        gi_wp2
        have HG4 := Lib.hid ((drew_grown W2 (some g)).trans HG3.out)
        have hzl := HZ.out
        have hb2 : ∀ q, q < W2.heap.size → q ≠ g → w3.heap[q]? = W2.heap[q]? := fun q h1 h2 => HG4.out.block q h1 (fun e => h2 (Option.some.inj e))
        refine ⟨⟨by have := HG4.out.size; omega, fun q hq => ?_⟩, j, b, swapL c j k, ⟨HN2.out, HST.out, hb1, by omega⟩, HG4.out.cell HC2 (by simp; omega), ?_, HG4.out.cell HO2 (by simp; omega), HG4.out.cell HP2 (by simp; omega), HR3.out, HB2.out.grown HG4.out (by omega) (fun q e => by have := Option.some.inj e; omega), by have := HG4.out.size; omega⟩
        · simp only [BodyR] at hq
          rw [hb2 q (by omega) (by omega)]
          exact HK2.out q (by omega)
        · exact (World.frozen?_of_block (w := W2) (hb2 _ (by show w.heap.size < _; omega) (by show w.heap.size ≠ g; omega))).trans HF2
      · go_simp
        refine hK _ _ ?_
        clear hK K
        refine wpAnyIn_take (i := 3) (v := ?_) rfl rfl (by kernel_rfl) (by kernel_rfl) (by kernel_rfl) (fun _ _ _ h => h) ⟨Or.inl ⟨by rfl, ?_⟩, fun _ => rfl⟩ ?_
        rotate_left 1
        · (intro w9; go_simp; try (with_reducible rfl))
        refine wpAnyIn_take (i := 7) (v := ?_) rfl rfl (by kernel_rfl) (by kernel_rfl) (by kernel_rfl) (fun _ _ _ h => h) ⟨Or.inl ⟨by rfl, ?_⟩, fun _ => rfl⟩ ?_
        rotate_left 1
        · (intro w9; go_simp; try (with_reducible rfl))
        refine wpAnyIn_take (i := 8) (v := ?_) rfl rfl (by kernel_rfl) (by kernel_rfl) (by kernel_rfl) (fun _ _ _ h => h) ⟨Or.inl ⟨by rfl, ?_⟩, fun _ => rfl⟩ ?_
        rotate_left 1
        · (intro w9; go_simp; try (with_reducible rfl))
        refine wpAnyIn_ready (rs := [0]) (by kernel_rfl) (by simp) ?_
        refine AllReadyIn.cons rfl (fun K hK => ?_) AllReadyIn.nil
        go_simp
        refine hK _ _ ?_
        clear hK K
        refine wpAnyIn_ready (rs := [9]) (by kernel_rfl) (by simp) ?_
        refine AllReadyIn.cons rfl (fun K hK => ?_) AllReadyIn.nil
        go_simp
        refine ⟨trivial, (callsIn_wide.2 HSW2.out).mono ?_⟩
        rintro e w3 ⟨⟨v3, rfl⟩, HR3, HG3⟩
        refine hK _ _ ?_
        clear hK K
        refine wpAnyIn_done (by kernel_rfl) ?_ _
        gi_wp2
        have HG4 := Lib.hid ((drew_grown W2 (some g)).trans HG3.out)
        have hzl := HZ.out
        have hb2 : ∀ q, q < W2.heap.size → q ≠ g → w3.heap[q]? = W2.heap[q]? := fun q h1 h2 => HG4.out.block q h1 (fun e => h2 (Option.some.inj e))
        refine ⟨⟨by have := HG4.out.size; omega, fun q hq => ?_⟩, j, b, swapL c j k, ⟨HN2.out, HST.out, hb1, by omega⟩, HG4.out.cell HC2 (by simp; omega), ?_, HG4.out.cell HO2 (by simp; omega), HG4.out.cell HP2 (by simp; omega), HR3.out, HB2.out.grown HG4.out (by omega) (fun q e => by have := Option.some.inj e; omega), by have := HG4.out.size; omega⟩
        · simp only [BodyR] at hq
          rw [hb2 q (by omega) (by omega)]
          exact HK2.out q (by omega)
        · exact (World.frozen?_of_block (w := W2) (hb2 _ (by show w.heap.size < _; omega) (by show w.heap.size ≠ g; omega))).trans HF2
    · obtain rfl : j = 0 := by omega
      gi_wp2
      refine ⟨⟨Nat.le_refl _, fun _ _ => rfl⟩, 0, s', c, ⟨HN.out, HRR.out, hs0, by omega⟩, h2, h3, h4, h5, HRW.out, HB.out, h8⟩
  case done =>
    rintro D W hD0 ⟨m, s', c, ⟨h1, hr, hs0, hmn⟩, h2, h3, h4, h5, h6, h7, h8⟩ hK
    obtain rfl : m = 0 := by
      have := congrArg List.length h1
      rw [List.length_append, bwdK_length] at this
      omega
    have HRF := Lib.hid (show r = c from hr)
    have HLC := Lib.hid HLR.out
    have HO := Lib.hid h6
    have HB := Lib.hid h7
    have hD1 : D = w1.heap.size + 3 := by have := HZ.out; omega
    clear hr h6 h7 h1
    go_wp2
    refine leavesM_end (a := _) rfl hK (fun W9 ho => ⟨.slice ao p.length cap, ?_, ?_⟩)
    · simp [results, Tryd.results69, go_sem]
      try rfl
    · obtain ⟨ao9, cap9, e9, hc9⟩ := Cel.of_owns (owns_offX HO.out ho (fun k e => by have := HVL.out k e; omega))
      cases e9
      exact ⟨_, cap, by rw [HLC.out], by rw [HRF.out]; exact hc9, HB.out.trans (ho.below HB.out.size (fun k e => by omega))⟩

end Go.Proofs.YtfjplphdkfiljaaDoor

