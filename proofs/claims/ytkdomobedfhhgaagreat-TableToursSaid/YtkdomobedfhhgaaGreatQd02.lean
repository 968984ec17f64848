/-
  Walks at labels: slices.IndexFunc, slices.DeleteFunc, upward.Find.
  A range over a function within a round of another one: the outer law tells the body of its record; the inner law takes it.
-/
import Derived.Test.YtkdomobedfhhgaaGreatProg
import Derived.Test.YtkdomobedfhhgaaGreatQb13
import Derived.Test.YtkdomobedfhhgaaGreatQd01
import Derived.Test.YtkdomobedfhhgaaGreatQb26
import Derived.RangeFuncNested
set_option linter.unusedVariables false
set_option linter.unusedSimpArgs false
set_option linter.unnecessarySimpa false
section
namespace Go.Proofs.YtkdomobedfhhgaaGreat
open Go Go.Proofs Go.RowKit Go.Shelf Go.Proofs.YtkdomobedfhhgaaGreat.Hp Go.Proofs.YtkdomobedfhhgaaGreat.Ch

/-- a label as a value -/
def encL (x : LB) : Value := .agg #[.int .i64 x.v, .int .u64 x.d, .int .i64 x.b]
set_option maxHeartbeats 1000000 in
theorem IndexFunc_lab (g : Nat) (cb : Array Value) (p : LB → Bool) (ao : Option Addr) (cap : Nat) (l : List LB) (w : World) (hen : Enters Tryz.prog g)
    (hp : PredOn Tryz.prog g cb encL p l w) (hl : l.length ≤ 9223372036854775807) (hc : Cel w ao (flatB l)) :
    Calls Tryz.prog 82 #[.slice ao l.length cap, .func (.func g) #[] cb] w fun e w' => e = .returned (.int .i64 (idxI p l)) ∧ Below w.heap.size w w' := by
  have HP := Lib.hid hp
  have HC := Lib.hid hc
  clear hp hc
  unfold Enters at hen
  go_enter Tryz.func82, Tryz.ntmps82
  go_wp2
  go_loopg [8] l.length (fun g i wr => ∃ k : Nat, k ≤ l.length ∧ l.length - k ≤ g ∧ i = .int .i64 k ∧ Aside (Below w.heap.size w wr) ∧ Aside (∀ j (h : j < l.length), j < k → p l[j] = false))
  case atStart => exact ⟨0, Nat.zero_le _, by omega, rfl, Below.refl _ _, fun j _ h => absurd h (Nat.not_lt_zero _)⟩
  case round =>
    obtain ⟨k, hk, hg, rfl, HB, HA⟩ := hrel
    by_cases hlt : k < l.length
    · obtain ⟨b, o, hao, hc1, hc2, hc3⟩ := (HC.out.below HB.out (Nat.le_refl _)).lab hlt
      have HQ := Lib.hid (HP.out wr l[k] HB.out (List.getElem_mem hlt))
      have HN := Lib.hid (fun h : p l[k] = true => idxI_hit p l k hlt h (fun j h1 h2 => HA.out j h1 h2))
      have HM := Lib.hid (fun h : p l[k] = false => (fun j (h1 : j < l.length) (h2 : j < k + 1) => (by
        by_cases e : j = k
        · subst e; exact h
        · exact HA.out j h1 (by omega) : p l[j] = false)))
      generalize hx : l[k] = x at *
      clear hx
      subst hao
      cases hq : p x with
      | true =>
        have HN2 := Lib.hid (HN.out hq)
        have HQ2 := Lib.hid (hq ▸ HQ.out)
        clear hq
        go_wp2_with (go_at_fn g; refine HQ2.out.mono ?_; rintro e w1 ⟨rfl, hb1⟩)
        go_ret
        exact ⟨by rw [HN2.out]; rfl, HB.out.trans (hb1.mono (by have := HB.out.size; omega))⟩
      | false =>
        have HN2 := Lib.hid (HM.out hq)
        have HQ2 := Lib.hid (hq ▸ HQ.out)
        clear hq
        go_wp2_with (go_at_fn g; refine HQ2.out.mono ?_; rintro e w1 ⟨rfl, hb1⟩)
        go_roundg (l.length - (k + 1))
        case measure => omega
        case rel => exact ⟨k + 1, by omega, by omega, by go_num, HB.out.trans (hb1.mono (by have := HB.out.size; omega)), HN2.out⟩
    · obtain rfl : k = l.length := by omega
      have HN := Lib.hid (idxI_miss p l (fun j h => HA.out j h h))
      go_wp2
      go_ret
      exact ⟨by rw [HN.out]; rfl, HB.out⟩

theorem find1_any (x : LB) (v : Int) (b : Nat) (w : World) (hx : w.cell? ⟨b, 0, none⟩ = some (.int .i64 v)) :
    Calls Tryz.prog 83 (#[encL x] ++ #[.pointer (some ⟨b, 0, none⟩)]) w fun e w' => e = .returned (.bool (decide (x.v = v))) ∧ Below w.heap.size w w' := by
  have f := fun o => cell_later (Below.of_al w o) hx
  have he : (x.v == v) = decide (x.v = v) := by rw [Bool.eq_iff_iff, beq_iff_eq, decide_eq_true_eq]
  unfold encL
  go_enter Tryz.func83, Tryz.ntmps83
  go_wp2
  go_ret
  exact ⟨by rw [← he]; rfl, Below.of_al _ _⟩
theorem idxI_lab (l : List LB) (v : Int) : (idxI (fun a => decide (a.v = v)) l < 0 ∧ labIs l v = false) ∨ ∃ i : Nat, ∃ h : i < l.length, idxI (fun a => decide (a.v = v)) l = (i : Int) ∧ labIs l v = true ∧ l[i] = labAt l v := by
  unfold labIs labAt
  induction l with
  | nil => exact .inl ⟨by simp [idxI], rfl⟩
  | cons x l ih =>
    unfold idxI
    by_cases h : x.v = v
    · refine .inr ⟨0, by simp, ?_, ?_, ?_⟩
      · simp [h]
      · simp [h]
      · simp [h]
    · rcases ih with ⟨i1, i2⟩ | ⟨i, hi, i1, i2, i3⟩
      · refine .inl ⟨?_, ?_⟩
        · simp [h, i1]
        · simp [h]
          simpa using i2
      · refine .inr ⟨i + 1, by simp; omega, ?_, ?_, ?_⟩
        · simp [h, i1]
          omega
        · simp [h]
          simpa using i2
        · simp [h]
          exact i3
theorem h3_read {W : World} {b : Nat} {a0 a1 a2 : Value} (x y z : Value) (h0 : W.cell? ⟨b, 0, none⟩ = some a0) (h1 : W.cell? ⟨b, 1, none⟩ = some a1) (h2 : W.cell? ⟨b, 2, none⟩ = some a2) :
    (((W.setCell ⟨b, 0, none⟩ x).setCell ⟨b, 1, none⟩ y).setCell ⟨b, 2, none⟩ z).cell? ⟨b, 0, none⟩ = some x ∧ (((W.setCell ⟨b, 0, none⟩ x).setCell ⟨b, 1, none⟩ y).setCell ⟨b, 2, none⟩ z).cell? ⟨b, 1, none⟩ = some y ∧ (((W.setCell ⟨b, 0, none⟩ x).setCell ⟨b, 1, none⟩ y).setCell ⟨b, 2, none⟩ z).cell? ⟨b, 2, none⟩ = some z := by
  obtain ⟨r0, r1⟩ := h2_read x y h0 h1
  refine ⟨?_, ?_, ?_⟩
  · rw [World.cell?_setCell_other _ _ _ _ (by simp)]; exact r0
  · rw [World.cell?_setCell_other _ _ _ _ (by simp)]; exact r1
  · refine World.cell?_setCell_same (u := a2) _ _ _ ?_
    rw [World.cell?_setCell_other _ _ _ _ (by simp), World.cell?_setCell_other _ _ _ _ (by simp)]
    exact h2
theorem below_set3 {B b : Nat} {w W : World} (x y z : Value) (h : Below B w W) (hb : B ≤ b) : Below B w (((W.setCell ⟨b, 0, none⟩ x).setCell ⟨b, 1, none⟩ y).setCell ⟨b, 2, none⟩ z) := ((h.setCell hb _).setCell hb _).setCell hb _
theorem labAt_none {l : List LB} {u : Int} (h : labIs l u = false) : labAt l u = ⟨0, 0, 0⟩ := by
  unfold labAt
  have : l.find? (fun a => decide (a.v = u)) = none := by
    rw [List.find?_eq_none]
    intro x hx k
    unfold labIs at h
    rw [List.any_eq_false] at h
    exact h x hx k
  rw [this]
  rfl
set_option maxRecDepth 100000 in
set_option maxHeartbeats 1000000 in
theorem find_any (l : List LB) (ao : Option Addr) (cap : Nat) (v : Int) (w : World) (hc : Cel w ao (flatB l)) (hl : l.length ≤ 1000000) :
    Calls Tryz.prog 31 #[.slice ao l.length cap, .int .i64 v] w fun e w' => e = .returned (.tuple #[encL (labAt l v), .bool (labIs l v)]) ∧ Below w.heap.size w w' := by
  obtain ⟨W, hW⟩ : ∃ W, W = (w.alloc (Obj.cells #[.int .i64 v] 3)).alloc (Obj.cells #[.int .i64 0, .int .u64 0, .int .i64 0] 64) := ⟨_, rfl⟩
  have hbw : Below w.heap.size w W := by rw [hW]; exact (Below.of_al _ _).al _
  have hsz : W.heap.size = w.heap.size + 2 := by rw [hW]; simp
  have c0 : W.cell? ⟨w.heap.size, 0, none⟩ = some (.int .i64 v) := by rw [hW]; go_simp
  have q0 : W.cell? ⟨w.heap.size + 1, 0, none⟩ = some (.int .i64 0) := by rw [hW]; go_simp
  have q1 : W.cell? ⟨w.heap.size + 1, 1, none⟩ = some (.int .u64 0) := by rw [hW]; go_simp
  have q2 : W.cell? ⟨w.heap.size + 1, 2, none⟩ = some (.int .i64 0) := by rw [hW]; go_simp
  have z0 : W.frozen? ⟨w.heap.size + 1, 0, none⟩ = false := by rw [hW]; go_simp
  have z1 : W.frozen? ⟨w.heap.size + 1, 1, none⟩ = false := by rw [hW]; go_simp
  have z2 : W.frozen? ⟨w.heap.size + 1, 2, none⟩ = false := by rw [hW]; go_simp
  have HI := Lib.hid (IndexFunc_lab 83 #[.pointer (some ⟨w.heap.size, 0, none⟩)] (fun a => decide (a.v = v)) ao cap l W (enters_of Tryz.func83 (by kernel_rfl) rfl) (fun W' x hb hx => find1_any x v w.heap.size W' (cell_later hb c0)) (by omega) (hc.go hbw))
  have HC := Lib.hid (hc.go hbw)
  have HB := Lib.hid hbw
  have HSZ := Lib.hid hsz
  have HW := Lib.hid hW
  have hl2 : (l.length : Int) ≤ 1000000 := by omega
  clear hW hbw hc hsz c0
  rcases idxI_lab l v with ⟨h1, h2⟩ | ⟨i, hi, h1, h2, h3⟩
  · have HL := Lib.hid (labAt_none h2)
    have HL2 := Lib.hid h2
    generalize idxI (fun a : LB => decide (a.v = v)) l = r at *
    clear h2
    go_enter Tryz.func31, Tryz.ntmps31
    go_upto_region 1 with (fail)
    rw [← HW.out]
    go_upto_region 2 with (go_at_call 82; refine HI.out.mono ?_; rintro e w1 ⟨rfl, hb1⟩; (have HB1 := Lib.hid hb1); (have p0 := cell_later hb1 q0); (have p1 := cell_later hb1 q1); (have p2 := cell_later hb1 q2); (have y0 := (hb1.frozen (p := ⟨w.heap.size + 1, 0, none⟩) (by show w.heap.size + 1 < _; rw [HSZ.out]; omega)).trans z0); (have y1 := (hb1.frozen (p := ⟨w.heap.size + 1, 1, none⟩) (by show w.heap.size + 1 < _; rw [HSZ.out]; omega)).trans z1); (have y2 := (hb1.frozen (p := ⟨w.heap.size + 1, 2, none⟩) (by show w.heap.size + 1 < _; rw [HSZ.out]; omega)).trans z2); clear hb1)
    clear q0 q1 q2 z0 z1 z2
    go_wp2
    obtain ⟨r0, r1, r2⟩ := h3_read (.int .i64 0) (.int .u64 0) (.int .i64 0) p0 p1 p2
    refine bodyPost_ret (v := .tuple #[encL ⟨0, 0, 0⟩, .bool false]) (by simp [results, Tryz.results31, go_sem, r0, r1, r2, encL]; try rfl) rfl ?_
    exact ⟨by rw [HL.out, HL2.out], below_set3 _ _ _ (HB.out.st HB1.out) (Nat.le_succ _)⟩
  · have HL := Lib.hid h3
    have HL2 := Lib.hid h2
    have hr0 : ¬ idxI (fun a : LB => decide (a.v = v)) l < 0 := by omega
    rw [h1] at HI
    obtain ⟨lb, lo, rfl, x0, x1, x2⟩ := HC.out.lab hi
    have hi0 : (0 : Int) ≤ (i : Int) := by omega
    have hi1 : (i : Int) < (l.length : Int) := by omega
    generalize l[i] = a at *
    obtain ⟨av, ad, ab⟩ := a
    simp only at x0 x1 x2
    clear h1 h2 h3 hr0
    go_enter Tryz.func31, Tryz.ntmps31
    go_upto_region 1 with (fail)
    rw [← HW.out]
    go_upto_region 2 with (go_at_call 82; refine HI.out.mono ?_; rintro e w1 ⟨rfl, hb1⟩; (have HB1 := Lib.hid hb1); (have p0 := cell_later hb1 q0); (have p1 := cell_later hb1 q1); (have p2 := cell_later hb1 q2); (have v0 := cell_later hb1 x0); (have v1 := cell_later hb1 x1); (have v2 := cell_later hb1 x2); (have y0 := (hb1.frozen (p := ⟨w.heap.size + 1, 0, none⟩) (by show w.heap.size + 1 < _; rw [HSZ.out]; omega)).trans z0); (have y1 := (hb1.frozen (p := ⟨w.heap.size + 1, 1, none⟩) (by show w.heap.size + 1 < _; rw [HSZ.out]; omega)).trans z1); (have y2 := (hb1.frozen (p := ⟨w.heap.size + 1, 2, none⟩) (by show w.heap.size + 1 < _; rw [HSZ.out]; omega)).trans z2); clear hb1)
    clear q0 q1 q2 z0 z1 z2 x0 x1 x2
    go_wp2
    obtain ⟨r0, r1, r2⟩ := h3_read (.int .i64 av) (.int .u64 ad) (.int .i64 ab) p0 p1 p2
    refine bodyPost_ret (v := .tuple #[encL ⟨av, ad, ab⟩, .bool true]) (by simp [results, Tryz.results31, go_sem, r0, r1, r2, encL]; try rfl) rfl ?_
    exact ⟨by rw [← HL.out, HL2.out], below_set3 _ _ _ (HB.out.st HB1.out) (Nat.le_succ _)⟩
structure DlI (p : LB → Bool) (l cur : List LB) (i j : Nat) : Prop where
  le : i ≤ j
  jn : j ≤ l.length
  len : cur.length = l.length
  hd : cur.take i = (l.take j).filter (fun a => !p a)
  tl : ∀ k, j ≤ k → cur[k]? = l[k]?
theorem DlI.drop {p : LB → Bool} {l cur : List LB} {i j : Nat} (h : DlI p l cur i j) (hj : j < l.length) (hp : p l[j] = true) : DlI p l cur i (j + 1) :=
  ⟨by have := h.le; omega, hj, h.len, by rw [h.hd, List.take_succ_eq_append_getElem hj, List.filter_append]; simp [hp], fun k hk => h.tl k (by omega)⟩
theorem DlI.keep {p : LB → Bool} {l cur : List LB} {i j : Nat} (h : DlI p l cur i j) (hj : j < l.length) (hp : p l[j] = false) : DlI p l (cur.set i l[j]) (i + 1) (j + 1) := by
  have hle := h.le
  have hlen := h.len
  refine ⟨by omega, hj, by rw [List.length_set]; exact hlen, ?_, fun k hk => by rw [List.getElem?_set_ne (by omega)]; exact h.tl k (by omega)⟩
  rw [List.take_succ_eq_append_getElem (by rw [List.length_set]; omega), List.take_succ_eq_append_getElem hj, List.filter_append, ← h.hd]
  rw [List.getElem_set_self]
  congr 1
  · rw [List.take_set_of_le (Nat.le_refl _)]
  · simp [hp]
theorem DlI.begin {p : LB → Bool} {l : List LB} {i : Nat} (hi : i < l.length) (hp : p l[i] = true) (hb : ∀ k (h : k < i), p (l[k]'(by omega)) = false) : DlI p l l i (i + 1) := by
  refine ⟨by omega, hi, rfl, ?_, fun _ _ => rfl⟩
  rw [List.take_succ_eq_append_getElem hi, List.filter_append]
  have : (l.take i).filter (fun a => !p a) = l.take i := by
    rw [List.filter_eq_self]
    intro a ha
    obtain ⟨k, hk, rfl⟩ := List.mem_iff_getElem.1 ha
    rw [List.getElem_take, hb k (by simp at hk; omega)]
    rfl
  rw [this]
  simp [hp]
theorem DlI.done {p : LB → Bool} {l cur : List LB} {i : Nat} (h : DlI p l cur i l.length) : cur.take i = l.filter (fun a => !p a) := by rw [h.hd, List.take_length]

theorem run_clear3 {P : Program} (w : World) (t e : TypeId) (z : Value) (ht : P.underlying t = some (.slice e)) (hv : ∀ w, (zeroValue e).run P w = .ok z w) (h2 : z.cells.size = 3) (h1 : ∀ u ∈ z.cells.toList, u.oneCell' = true) (b o n c : Nat) (hn : 0 < n)
    (hc : ∀ j, j < n * 3 → (w.cell? ⟨b, o + j, none⟩).isSome = true) (hf : ∀ j, j < n * 3 → w.frozen? ⟨b, o + j, none⟩ = false) :
    ∃ vs, vs.length = n * 3 ∧ ∀ ty, (Builtin.clear_ #[t] ty #[.slice (some ⟨b, o, none⟩) n c]).run P w = .ok (.tuple #[]) (w.setCells b o vs) := by
  have hzl : ((Builtin.zeroCells z.cells n).toList).length = n * 3 := by simp [Builtin.zeroCells, h2, Nat.mul_comm]
  have hst := run_storeCells_cells (P := P) b o (Builtin.zeroCells z.cells n).toList 0 w (by simpa [hzl] using hc) (by simpa [hzl] using hf) (by
    intro v hv'
    apply h1
    simp [Builtin.zeroCells] at hv'
    obtain ⟨k, hk, rfl⟩ := hv'
    rw [Array.getElem!_eq_getD]
    simp [Array.getD, h2, Nat.mod_lt])
  simp only [Nat.add_zero] at hst
  obtain ⟨m, rfl⟩ : ∃ m, n = m + 1 := ⟨n - 1, by omega⟩
  refine ⟨_, hzl, fun ty => ?_⟩
  simp [Builtin.clear_, run_underlying ht, hv, hst]

theorem flatB_take : ∀ (l : List LB) (i : Nat), (flatB l).take (i * 3) = flatB (l.take i)
  | [], i => by simp [flatB]
  | x :: l, 0 => by simp [flatB]
  | x :: l, i + 1 => by
    rw [show (i + 1) * 3 = i * 3 + 1 + 1 + 1 by omega, flatB, List.take_succ_cons, List.take_succ_cons, List.take_succ_cons, flatB_take l i]
    rfl
theorem flatB_set : ∀ (l : List LB) (i : Nat) (q : LB), (((flatB l).set (i * 3) (.int .i64 q.v)).set (i * 3 + 1) (.int .u64 q.d)).set (i * 3 + 2) (.int .i64 q.b) = flatB (l.set i q)
  | [], i, q => by simp [flatB]
  | x :: l, 0, q => rfl
  | x :: l, i + 1, q => by
    rw [show (i + 1) * 3 = i * 3 + 1 + 1 + 1 by omega, List.set_cons_succ]
    show _ = _ :: _ :: _ :: flatB (l.set i q)
    rw [← flatB_set l i q]
    rfl
theorem hp_onet3 (a b c : Int) : ∀ u ∈ ((Value.agg #[.int .i64 a, .int .u64 b, .int .i64 c]).cells).toList, u.oneCell' = true := by
  intro u hu
  have h : ((Value.agg #[.int .i64 a, .int .u64 b, .int .i64 c]).cells).toList = [Value.int .i64 a, .int .u64 b, .int .i64 c] := rfl
  rw [h] at hu
  simp only [List.mem_cons, List.not_mem_nil, or_false] at hu
  rcases hu with rfl | rfl | rfl <;> rfl

/-- what DeleteFunc leaves -/
def DelPostL (base : Nat) (p : LB → Bool) (l : List LB) (ao : Option Addr) (cap : Nat) (w : World) (e : Ending) (w' : World) : Prop :=
  e = .returned (.slice ao (l.filter (fun a => !p a)).length cap) ∧ w'.ownsRow base 64 3 (.slice ao (l.filter (fun a => !p a)).length cap) (l.filter (fun a => !p a)).length (flatB (l.filter (fun a => !p a))) ∧
    OffX (fun k => (Value.slice ao l.length cap).ownBlock = some k) w w'
theorem zero_lab (w : World) : (zeroValue 64).run Tryz.prog w = .ok (.agg #[.int .i64 0, .int .u64 0, .int .i64 0]) w := by kernel_rfl

set_option maxRecDepth 100000 in
set_option maxHeartbeats 4000000 in
theorem delLab_any (base : Nat) (cb : Array Value) (p : LB → Bool) (l : List LB) (ao : Option Addr) (cap : Nat) (w : World) (h : w.ownsRow base 64 3 (.slice ao l.length cap) l.length (flatB l))
    (hp1 : ∀ (W : World) (x : LB), OffX (fun k => (Value.slice ao l.length cap).ownBlock = some k) w W → x ∈ l → Calls Tryz.prog 86 (#[encL x] ++ cb) W fun e w' => e = .returned (.bool (p x)) ∧ Below W.heap.size W w') (hl : l.length ≤ 1000000) :
    Calls Tryz.prog 85 #[.slice ao l.length cap, .func (.func 86) #[] cb] w (DelPostL base p l ao cap w) := by
  obtain ⟨ao', c', e, hc⟩ := Cel.of_owns h
  cases e
  have HI := Lib.hid (IndexFunc_lab 86 cb p ao cap l w (enters_of Tryz.func86 (by kernel_rfl) rfl) (fun W x hb hx => hp1 W x (.of_below hb) hx) (by omega) hc)
  have HP1 := Lib.hid hp1
  have HO := Lib.hid h
  have hl2 : (l.length : Int) ≤ 1000000 := by omega
  unfold DelPostL
  by_cases hex : ∃ i, ∃ hi : i < l.length, p l[i] = true ∧ ∀ k (h : k < i), p (l[k]'(by omega)) = false
  · obtain ⟨i, hi, hp, hb⟩ := hex
    obtain ⟨g, cg, e⟩ := own_form h (by omega)
    cases e
    rw [idxI_hit p l i hi hp (fun j h h2 => hb j h2)] at HI
    have HD := Lib.hid (DlI.begin hi hp hb)
    clear hp hb hc h hp1
    have hi1 : ((i : Int) == -1) = false := by rw [beq_eq_false_iff_ne]; omega
    have hi2 : (i : Int) < (l.length : Int) := by omega
    go_enter Tryz.func85, Tryz.ntmps85
    go_wp2_with (go_at_call 82; refine HI.out.mono ?_; rintro e w1 ⟨rfl, hb1⟩; (have HB1 := Lib.hid hb1; clear hb1))
    go_loopg [5, 6] l.length (fun gg v5 v6 wr => ∃ (i j : Nat) (cur : List LB), i < j ∧ j ≤ l.length ∧ l.length - j ≤ gg ∧ v5 = .int .i64 i ∧ v6 = .int .i64 j ∧ Aside (DlI p l cur i j) ∧ Aside (wr.ownsRow base 64 3 (.slice (some ⟨g, 0, none⟩) l.length cap) l.length (flatB cur)) ∧ Aside (OffX (· = g) w wr))
    case atStart => exact ⟨i, i + 1, l, Nat.lt_succ_self i, hi, by omega, rfl, by go_num, HD.out, hp_owns_go HO.out HB1.out, .of_below HB1.out⟩
    case round =>
      clear HD HI HB1 hi hi1 hi2
      obtain ⟨i, j, cur, hij, hj, hg, rfl, rfl, HD, HR, HF⟩ := hrel
      have hcl := HD.out.len
      by_cases hlt : j < l.length
      · have hlt2 : (j : Int) < (l.length : Int) := by omega
        have hi2 : (i : Int) < (l.length : Int) := by omega
        have hcj : cur[j]'(by omega) = l[j] := by
          have := HD.out.tl j (Nat.le_refl _)
          rw [List.getElem?_eq_getElem (by omega), List.getElem?_eq_getElem hlt] at this
          exact Option.some.inj this
        obtain ⟨x0, x1, x2⟩ := flatB_get cur j (by omega)
        rw [hcj] at x0 x1 x2
        have y0 := (HR.out.cellAt (j * 3) (by omega)).trans x0
        have y1 := (HR.out.cellAt (j * 3 + 1) (by omega)).trans x1
        have y2 := (HR.out.cellAt (j * 3 + 2) (by omega)).trans x2
        clear x0 x1 x2 hcj
        have HA := Lib.hid (fun o => HP1.out (wr.alloc o) l[j] ((HF.out.mono (fun k e => by rw [e]; rfl)).trans (.of_below (Below.of_al wr o))) (List.getElem_mem hlt))
        obtain ⟨x0, x1, x2⟩ := flatB_get cur i (by omega)
        have HP := Lib.hid (And.intro ((HR.out.cellAt (i * 3) (by omega)).trans x0) (And.intro ((HR.out.cellAt (i * 3 + 1) (by omega)).trans x1) ((HR.out.cellAt (i * 3 + 2) (by omega)).trans x2)))
        have HIJ := Lib.hid hij
        have hi0 : (0 : Int) ≤ (i : Int) := by omega
        clear x0 x1 x2
        cases hp : p l[j] with
        | true =>
          have HD2 := Lib.hid (HD.out.drop hlt hp)
          rw [hp] at HA
          clear hp
          generalize l[j] = q at *
          go_wp2_with (go_at_call 86; refine (HA.out _).mono ?_; rintro e w5 ⟨rfl, hb5⟩; (have HB5 := Lib.hid ((Below.of_al wr _).st hb5)); clear hb5)
          go_roundg (l.length - (j + 1))
          case measure => omega
          case rel => exact ⟨i, j + 1, cur, by omega, by omega, Nat.le_refl _, rfl, by go_num, HD2.out, hp_owns_go HR.out HB5.out, HF.out.trans (.of_below HB5.out)⟩
        | false =>
          have HD2 := Lib.hid (HD.out.keep hlt hp)
          rw [hp] at HA
          clear hp
          generalize l[j] = q at *
          go_wp2_with (go_at_call 86; refine (HA.out _).mono ?_; rintro e w5 ⟨rfl, hb5⟩; (have HB5 := Lib.hid ((Below.of_al wr _).st hb5)); (have c5 : w5.cell? ⟨wr.heap.size, 0, none⟩ = some (.int .i64 q.v) := cell_later hb5 (by go_simp)); (have c6 : w5.cell? ⟨wr.heap.size, 1, none⟩ = some (.int .u64 q.d) := cell_later hb5 (by go_simp)); (have c7 : w5.cell? ⟨wr.heap.size, 2, none⟩ = some (.int .i64 q.b) := cell_later hb5 (by go_simp)); (have p0 := cell_later HB5.out HP.out.1); (have p1 := cell_later HB5.out HP.out.2.1); (have p2 := cell_later HB5.out HP.out.2.2); (have z0 := (hp_owns_go HR.out HB5.out).frozenAt (i * 3)); (have z1 := (hp_owns_go HR.out HB5.out).frozenAt (i * 3 + 1)); (have z2 := (hp_owns_go HR.out HB5.out).frozenAt (i * 3 + 2)); clear hb5)
          have hown : (((w5.setCell ⟨g, i * 3, none⟩ (.int .i64 q.v)).setCell ⟨g, i * 3 + 1, none⟩ (.int .u64 q.d)).setCell ⟨g, i * 3 + 2, none⟩ (.int .i64 q.b)).ownsRow base 64 3 (.slice (some ⟨g, 0, none⟩) l.length cap) l.length (flatB (cur.set i q)) := by
            have h1 := ((hp_owns_go HR.out HB5.out).stored (i * 3) (.int .i64 q.v)).1
            have h2 := (h1.stored (i * 3 + 1) (.int .u64 q.d)).1
            have h3 := (h2.stored (i * 3 + 2) (.int .i64 q.b)).1
            rw [flatB_set] at h3
            exact h3
          go_roundg (l.length - (j + 1))
          case measure => omega
          case rel => exact ⟨i + 1, j + 1, cur.set i q, by omega, by omega, Nat.le_refl _, by go_num, by go_num, HD2.out, hown, (((HF.out.trans (.of_below HB5.out)).trans (.set _ rfl)).trans (.set _ rfl)).trans (.set _ rfl)⟩
      · obtain rfl : j = l.length := by omega
        obtain ⟨vs, hvs, hclr⟩ := run_clear3 (P := Tryz.prog) wr 59 64 _ Tryz.underlying59 zero_lab rfl (fun u hu => hp_onet3 0 0 0 u hu) g (i * 3) (l.length - i) (cap - i) (by omega)
          (fun k hk => by rw [HR.out.cellAt (i * 3 + k) (by omega), List.getElem?_eq_getElem (by rw [flatB_len]; omega)]; rfl) (fun k hk => HR.out.frozenAt _)
        obtain ⟨ys, ho, hys, _, hof⟩ := owns_setCells vs (i * 3) wr _ HR.out (by rw [flatB_len]; omega)
        have hcut := owns_cut ho (Nat.le_of_lt hij)
        have hfl : (l.filter (fun a => !p a)).length = i := by rw [← HD.out.done, List.length_take]; omega
        have htk : ys.take (i * 3) = flatB (l.filter (fun a => !p a)) := by rw [hys, flatB_take, HD.out.done]
        rw [htk] at hcut
        have HCUT := Lib.hid hcut
        have HOF := Lib.hid (HF.out.trans hof)
        have HFL := Lib.hid hfl
        have hcap := owns_capH HR.out
        have hi0 : (0 : Int) ≤ (i : Int) := by omega
        clear ho hys hof hcut hfl htk hvs
        go_wp2
        go_ret
        rw [HFL.out]
        exact ⟨rfl, HCUT.out, HOF.out.mono (fun k e => by rw [e]; rfl)⟩
  · have hno : ∀ k (h : k < l.length), p l[k] = false := by
      have : ∀ n k, k < n → ∀ (h : k < l.length), p l[k] = false := by
        intro n
        induction n with
        | zero => intro k hk; omega
        | succ n ih =>
          intro k hk h
          cases hp : p l[k] with
          | false => rfl
          | true => exact absurd ⟨k, h, hp, fun k' h' => ih k' (by omega) (by omega)⟩ hex
      exact fun k h => this (k + 1) k (by omega) h
    rw [idxI_miss p l hno] at HI
    have hf : l.filter (fun a => !p a) = l := by
      rw [List.filter_eq_self]
      intro a ha
      obtain ⟨k, hk, rfl⟩ := List.mem_iff_getElem.1 ha
      rw [hno k hk]
      rfl
    rw [hf]
    clear hf hno hex h hc hp1
    go_enter Tryz.func85, Tryz.ntmps85
    go_wp2_with (go_at_call 82; refine HI.out.mono ?_; rintro e w1 ⟨rfl, hb1⟩)
    go_ret
    exact ⟨rfl, hp_owns_go HO.out hb1, .of_below hb1⟩

end Go.Proofs.YtkdomobedfhhgaaGreat
end

section
namespace Go.Proofs.YtkdomobedfhhgaaGreat
open Go Go.Proofs Go.RowKit
variable {F : Fence} {n : Nat} {P : Program}

theorem wpIn_rangeKR {α : Type} {g : Operand} {ps : Array Tmp} {assign body : Code} {Q : Exit → Act → World → Prop} {a : Act} {w : World}
    (hro : F.round = none) (h1 : 1 ≤ n) {gf : Nat} {lb : Array Value} (hg : a.eval g = .func (.func gf) #[] lb) (hFg : F.fn gf) (eg : ∀ args w, (callFunc gf args).run P w = .ok (.enter gf args) w)
    {encs : α → Array Value} {parts : List α} {Kp : Nat → Prop} (hseq : SeqK F (n - 1) P gf lb encs parts Kp w) (hB : ∀ k, Kp k → k < w.heap.size) (hps : ∀ x, (encs x).size = ps.size)
    (I : List α → World → Prop) (Ix : Code → List α → World → Prop)
    (hI : ∀ pre W W', I pre W → OffX (TurnK w.heap.size) W W' → I pre W') (hIx : ∀ c pre W W', Ix c pre W → OffX (TurnK w.heap.size) W W' → Ix c pre W') (h0 : I [] w)
    (hround : ∀ (l : Nat) (pre : List α) (x : α) (W0 : World) (K : Act → World → Prop), I pre W0 → (pre ++ [x]) <+: parts → w.heap.size ≤ l → l ≤ w.heap.size + 1 → w.heap.size + 2 ≤ W0.heap.size →
      (∀ a' W', Below W0.heap.size W0 W' → (∀ Wb, OffX (TurnK w.heap.size) W' Wb → I pre Wb → (∃ r, Wb.heap[l]? = some (.loop r)) → body.wpIn (F.inRound l) (n - 1 - 1) P (postK (BodyK Kp w.heap.size) I Ix (pre ++ [x]) Wb) a' Wb) → K a' W') →
      assign.wpIn (F.inRound l) (n - 1 - 1) P (Exit.then K (fun _ _ _ => False)) { tmps := (ps.zip (encs x)).foldl (fun t (p, v) => t.setIfInBounds p v) a.tmps, defers := [] } W0)
    (hdone : ∀ (D : Nat) (W : World), D = w.heap.size → I parts W → W.heap[D]? = some (.deferred (some [])) → Q .normal { a with defers := { target := .collected D, args := #[] } :: a.defers } W)
    (hstop : ∀ (D : Nat) (c : Code) (pre : List α) (W : World), D = w.heap.size → pre <+: parts → Ix c pre W → W.heap[D]? = some (.deferred (some [])) → c.wpIn F n P Q { a with defers := { target := .collected D, args := #[] } :: a.defers } W) :
    (Code.rangeFunc g ps assign body).wpIn F n P Q a w := by
  refine wpIn_rangeFunc fun fn hfn => ?_
  rw [hro]
  obtain ⟨R, hR⟩ : ∃ R : LoopState → Option Code → Loop, R = fun st pe => { state := st, pending := pe, fn, tmps := a.tmps, params := ps, assign, body, defers := w.heap.size } := ⟨_, rfl⟩
  obtain ⟨D, hD⟩ : ∃ D, w.heap.size = D := ⟨_, rfl⟩
  obtain ⟨V, hV⟩ : ∃ V, V = (w.alloc (.deferred (some []))).alloc (.loop (R .ready none)) := ⟨_, rfl⟩
  have loopV : V.heap[D + 1]? = some (.loop (R .ready none)) := by
    have := World.alloc_heap_new (w.alloc (.deferred (some []))) (.loop (R .ready none))
    rw [World.size_alloc, hD] at this
    rw [hV]; exact this
  have markV : V.heap[D]? = some (.deferred (some [])) := by
    have := World.alloc_heap_new w (.deferred (some []))
    rw [hD] at this
    rw [hV, Below.heap_alloc _ _ _ (by rw [World.size_alloc]; omega)]
    exact this
  have growV : Below w.heap.size w V := by rw [hV]; exact ((Below.refl _ w).alloc (Nat.le_refl _) _).alloc (by simp) _
  have sizeV : V.heap.size = D + 2 := by rw [hV]; simp; omega
  have isR : ∀ st pe, (R st pe).params = ps ∧ (R st pe).tmps = a.tmps ∧ (R st pe).fn = fn ∧ (R st pe).assign = assign ∧ (R st pe).body = body ∧ (R st pe).state = st ∧ (R st pe).pending = pe := fun st pe => by rw [hR]; exact ⟨rfl, rfl, rfl, rfl, rfl, rfl, rfl⟩
  refine ⟨D + 1, [{ target := .collected D, args := #[] }], V, { target := .fn (.func gf) lb, args := #[.func (.yield (D + 1)) #[] #[]] }, V, gf, #[.func (.yield (D + 1)) #[] #[]] ++ lb, V, ?_, ?_, ?_, ?_, fun _ => h1, ?_⟩
  · have := run_enterLoop_outer (P := P) (w := w) fn a.tmps ps assign body
    rw [this, hV, hR, hD]
  · simp only [resolve, hg]
    simp [go_sem]
  · intro f' hf'
    simp [Target.leads] at hf'
    subst hf'
    exact hFg
  · simp [invoke, go_sem, eg]
  · rw [hD] at hI hIx hround hdone hstop hB growV
    refine (hseq (D + 1) (fun pre W => I pre W ∧ W.heap[D + 1]? = some (.loop (R .ready none)) ∧ W.heap[D]? = some (.deferred (some [])))
      (fun pre W => ∃ c, Ix c pre W ∧ W.heap[D + 1]? = some (.loop (R .done (some c))) ∧ W.heap[D]? = some (.deferred (some [])))
      V ⟨growV.size, fun k hk => growV.block k (by have := hB k hk; omega)⟩ ?_ ?_ ?round ⟨hI _ _ _ h0 (.of_below (by rw [hD]; exact growV)), loopV, markV⟩).mono ?_
    · rintro pre W1 W2 ⟨hi, hl, hk⟩ ho
      refine ⟨hI _ _ _ hi (ho.mono fun k e => e.elim), ?_, ?_⟩
      · rw [ho.block (D + 1) (Array.getElem?_eq_some_iff.1 hl).1 (fun e => e.elim)]; exact hl
      · rw [ho.block D (Array.getElem?_eq_some_iff.1 hk).1 (fun e => e.elim)]; exact hk
    · rintro pre W1 W2 ⟨c, hi, hl, hk⟩ ho
      refine ⟨c, hIx _ _ _ _ hi (ho.mono fun k e => e.elim), ?_, ?_⟩
      · rw [ho.block (D + 1) (Array.getElem?_eq_some_iff.1 hl).1 (fun e => e.elim)]; exact hl
      · rw [ho.block D (Array.getElem?_eq_some_iff.1 hk).1 (fun e => e.elim)]; exact hk
    case round =>
      rintro pre x W0 ⟨hi0, hl0, hk0⟩ hpx
      have hlt0 : D + 1 < W0.heap.size := (Array.getElem?_eq_some_iff.1 hl0).1
      obtain ⟨e1, e2, e3, e4, e5, e6, e7⟩ := isR .ready none
      have hy := run_yield (P := P) (args := encs x) hl0 (by rw [e1]; exact hps x)
      rw [e1, e2, e3, e4, e5] at hy
      refine ⟨fn, _, assign, body, hy, roundIn_of_wpIn hfn (hround _ pre x W0 _ hi0 hpx (by omega) (by omega) (by omega) ?_)⟩
      intro a₁ W hgr hbody
      have hl : W.heap[D + 1]? = some (.loop (R .ready none)) := (hgr.block _ hlt0).trans hl0
      have hk : W.heap[D]? = some (.deferred (some [])) := (hgr.block _ (by omega)).trans hk0
      have hi : I pre W := hI _ _ _ hi0 (.of_below hgr)
      have hk00 : KeepX Kp W0 W := ⟨hgr.size, fun k hk => hgr.block k (by have := hB k hk; omega)⟩
      refine ⟨_, run_beginRound hl e6, ?_⟩
      have hlt : D + 1 < W.heap.size := (Array.getElem?_eq_some_iff.1 hl).1
      obtain ⟨Wb, hWb⟩ : ∃ Wb, Wb = W.putObj (D + 1) (.loop { R .ready none with state := .busy }) := ⟨_, rfl⟩
      rw [← hWb]
      have hlb : Wb.heap[D + 1]? = some (.loop { R .ready none with state := .busy }) := by rw [hWb]; exact World.putObj_heap_same hlt
      have hkb : Wb.heap[D]? = some (.deferred (some [])) := by rw [hWb]; exact (World.putObj_heap_other (by omega)).trans hk
      have hob : OffX (TurnK D) W Wb := by rw [hWb]; exact .put _ rfl
      have hsb : W.heap.size ≤ Wb.heap.size := hob.size
      have hkx : KeepX Kp W Wb := ⟨hsb, fun k hk => by
        rw [hWb]; exact World.putObj_heap_other (by have := hB k hk; omega)⟩
      refine wpIn_mono (hbody Wb hob (hI _ _ _ hi hob) ⟨_, hlb⟩) ?_
      have fin : ∀ (jump : Option Code) (W3 : World), KeepX (BodyK Kp D) Wb W3 → ∃ W4, (Instr.endRound (D + 1) jump).run P W3 = .ok (.bool jump.isNone) W4 ∧ OffX (TurnK D) W3 W4 ∧ KeepX Kp W0 W4 ∧
          W4.heap[D + 1]? = some (.loop (R (if jump.isNone then .ready else .done) jump)) ∧ W4.heap[D]? = some (.deferred (some [])) := by
        intro jump W3 hk3
        have hl3 : W3.heap[D + 1]? = some (.loop { R .ready none with state := .busy }) := (hk3.2 _ (.inr (.inr rfl))).trans hlb
        have hd3 : W3.heap[D]? = some (.deferred (some [])) := (hk3.2 _ (.inr (.inl rfl))).trans hkb
        have he := run_endRound (P := P) jump hl3
        refine ⟨_, he, .put _ rfl, hk00.trans (hkx.trans ((hk3.mono fun k h => .inl h).trans ⟨(OffX.put (X := TurnK D) _ rfl).size, fun k hk => World.putObj_heap_other (by have := hB k hk; omega)⟩)), ?_, (World.putObj_heap_other (by omega)).trans hd3⟩
        rw [World.putObj_heap_same (Array.getElem?_eq_some_iff.1 hl3).1, hR]
      rintro e a3 W3 hp
      cases e with
      | normal =>
        obtain ⟨hk3, hi3⟩ := hp
        obtain ⟨W4, r1, r2, r3, r4, r5⟩ := fin none W3 hk3
        exact ⟨_, _, r1, .inl ⟨rfl, ⟨hI _ _ _ hi3 r2, r4, r5⟩, r3⟩⟩
      | ret =>
        obtain ⟨hk3, hi3⟩ := hp
        obtain ⟨W4, r1, r2, r3, r4, r5⟩ := fin (some .ret) W3 hk3
        exact ⟨_, _, r1, .inr ⟨rfl, .ret, hIx _ _ _ _ hi3 r2, r4, r5⟩⟩
      | exit id =>
        obtain ⟨hk3, hi3⟩ := hp
        obtain ⟨W4, r1, r2, r3, r4, r5⟩ := fin (some (.exit id)) W3 hk3
        exact ⟨_, _, r1, .inr ⟨rfl, .exit id, hIx _ _ _ _ hi3 r2, r4, r5⟩⟩
      | goto t =>
        obtain ⟨hk3, hi3⟩ := hp
        obtain ⟨W4, r1, r2, r3, r4, r5⟩ := fin (some (.goto t)) W3 hk3
        exact ⟨_, _, r1, .inr ⟨rfl, .goto t, hIx _ _ _ _ hi3 r2, r4, r5⟩⟩
      | panic ch => exact hp.elim
      | outgrown => exact hp.elim
    · rintro e W2 ⟨⟨v, rfl⟩, ⟨hi, hl, hk⟩ | ⟨pre, hpp, c, hi, hl, hk⟩⟩
      · obtain ⟨e1, e2, e3, e4, e5, e6, e7⟩ := isR .ready none
        have he := run_endLoop (P := P) hl (by rw [e6]; simp)
        rw [e7] at he
        exact ⟨none, _, he, hdone D _ rfl (hI _ _ _ hi (.put _ rfl)) ((World.putObj_heap_other (by omega)).trans hk)⟩
      · obtain ⟨e1, e2, e3, e4, e5, e6, e7⟩ := isR .done (some c)
        have he := run_endLoop (P := P) hl (by rw [e6]; simp)
        rw [e7] at he
        exact ⟨some c, _, he, hstop D c pre _ rfl hpp (hIx _ _ _ _ hi (.put _ rfl)) ((World.putObj_heap_other (by omega)).trans hk)⟩

/-- the blocks that the inner body must leave, and the one that turns between two rounds -/
def BodyN (Kp : Nat → Prop) (D k : Nat) : Prop := Kp k ∨ k = D
def TurnN (D k : Nat) : Prop := k = D

theorem wpIn_rangeKM {α : Type} {g : Operand} {ps : Array Tmp} {assign body : Code} {Q : Exit → Act → World → Prop} {a : Act} {w : World}
    {l₀ : Nat} {r₀ : Loop} (hro : F.round = some l₀) (hl₀ : w.heap[l₀]? = some (.loop r₀)) (h1 : 1 ≤ n) {gf : Nat} {lb : Array Value} (hg : a.eval g = .func (.func gf) #[] lb) (hFg : F.fn gf) (eg : ∀ args w, (callFunc gf args).run P w = .ok (.enter gf args) w)
    {encs : α → Array Value} {parts : List α} {Kp : Nat → Prop} (hseq : SeqK F (n - 1) P gf lb encs parts Kp w) (hB : ∀ k, Kp k → k < w.heap.size) (hps : ∀ x, (encs x).size = ps.size)
    (I : List α → World → Prop) (Ix : Code → List α → World → Prop)
    (hI : ∀ pre W W', I pre W → OffX (TurnN w.heap.size) W W' → I pre W') (hIx : ∀ c pre W W', Ix c pre W → OffX (TurnN w.heap.size) W W' → Ix c pre W') (h0 : I [] w)
    (hround : ∀ (l : Nat) (pre : List α) (x : α) (W0 : World) (K : Act → World → Prop), I pre W0 → (pre ++ [x]) <+: parts → l = w.heap.size → w.heap.size + 1 ≤ W0.heap.size →
      (∀ a' W', Below W0.heap.size W0 W' → (∀ Wb, OffX (TurnN w.heap.size) W' Wb → I pre Wb → body.wpIn (F.inRound l) (n - 1 - 1) P (postK (BodyN Kp w.heap.size) I Ix (pre ++ [x]) Wb) a' Wb) → K a' W') →
      assign.wpIn (F.inRound l) (n - 1 - 1) P (Exit.then K (fun _ _ _ => False)) { tmps := (ps.zip (encs x)).foldl (fun t (p, v) => t.setIfInBounds p v) a.tmps, defers := [] } W0)
    (hdone : ∀ (W : World), I parts W → Q .normal a W)
    (hstop : ∀ (c : Code) (pre : List α) (W : World), pre <+: parts → Ix c pre W → c.wpIn F n P Q a W) :
    (Code.rangeFunc g ps assign body).wpIn F n P Q a w := by
  refine wpIn_rangeFunc fun fn hfn => ?_
  rw [hro]
  obtain ⟨R, hR⟩ : ∃ R : LoopState → Option Code → Loop, R = fun st pe => { state := st, pending := pe, fn, tmps := a.tmps, params := ps, assign, body, defers := r₀.defers } := ⟨_, rfl⟩
  obtain ⟨D, hD⟩ : ∃ D, w.heap.size = D := ⟨_, rfl⟩
  obtain ⟨V, hV⟩ : ∃ V, V = w.alloc (.loop (R .ready none)) := ⟨_, rfl⟩
  have loopV : V.heap[D]? = some (.loop (R .ready none)) := by
    rw [hV, ← hD]; exact World.alloc_heap_new w _
  have growV : Below w.heap.size w V := by rw [hV]; exact (Below.refl _ w).alloc (Nat.le_refl _) _
  have sizeV : V.heap.size = D + 1 := by rw [hV]; simp; omega
  have isR : ∀ st pe, (R st pe).params = ps ∧ (R st pe).tmps = a.tmps ∧ (R st pe).fn = fn ∧ (R st pe).assign = assign ∧ (R st pe).body = body ∧ (R st pe).state = st ∧ (R st pe).pending = pe := fun st pe => by rw [hR]; exact ⟨rfl, rfl, rfl, rfl, rfl, rfl, rfl⟩
  refine ⟨D, [], V, { target := .fn (.func gf) lb, args := #[.func (.yield D) #[] #[]] }, V, gf, #[.func (.yield D) #[] #[]] ++ lb, V, ?_, ?_, ?_, ?_, fun _ => h1, ?_⟩
  · have := run_enterLoop_inner (P := P) hl₀ fn a.tmps ps assign body
    rw [this, hV, hR, hD]
  · simp only [resolve, hg]
    simp [go_sem]
  · intro f' hf'
    simp [Target.leads] at hf'
    subst hf'
    exact hFg
  · simp [invoke, go_sem, eg]
  · rw [hD] at hI hIx hround hB growV
    refine (hseq D (fun pre W => I pre W ∧ W.heap[D]? = some (.loop (R .ready none)))
      (fun pre W => ∃ c, Ix c pre W ∧ W.heap[D]? = some (.loop (R .done (some c))))
      V ⟨growV.size, fun k hk => growV.block k (by have := hB k hk; omega)⟩ ?_ ?_ ?round ⟨hI _ _ _ h0 (.of_below (by rw [hD]; exact growV)), loopV⟩).mono ?_
    · rintro pre W1 W2 ⟨hi, hl⟩ ho
      refine ⟨hI _ _ _ hi (ho.mono fun k e => e.elim), ?_⟩
      rw [ho.block D (Array.getElem?_eq_some_iff.1 hl).1 (fun e => e.elim)]; exact hl
    · rintro pre W1 W2 ⟨c, hi, hl⟩ ho
      refine ⟨c, hIx _ _ _ _ hi (ho.mono fun k e => e.elim), ?_⟩
      rw [ho.block D (Array.getElem?_eq_some_iff.1 hl).1 (fun e => e.elim)]; exact hl
    case round =>
      rintro pre x W0 ⟨hi0, hl0⟩ hpx
      have hlt0 : D < W0.heap.size := (Array.getElem?_eq_some_iff.1 hl0).1
      obtain ⟨e1, e2, e3, e4, e5, e6, e7⟩ := isR .ready none
      have hy := run_yield (P := P) (args := encs x) hl0 (by rw [e1]; exact hps x)
      rw [e1, e2, e3, e4, e5] at hy
      refine ⟨fn, _, assign, body, hy, roundIn_of_wpIn hfn (hround _ pre x W0 _ hi0 hpx (by omega) (by omega) ?_)⟩
      intro a₁ W hgr hbody
      have hl : W.heap[D]? = some (.loop (R .ready none)) := (hgr.block _ hlt0).trans hl0
      have hi : I pre W := hI _ _ _ hi0 (.of_below hgr)
      have hk00 : KeepX Kp W0 W := ⟨hgr.size, fun k hk => hgr.block k (by have := hB k hk; omega)⟩
      refine ⟨_, run_beginRound hl e6, ?_⟩
      have hlt : D < W.heap.size := (Array.getElem?_eq_some_iff.1 hl).1
      obtain ⟨Wb, hWb⟩ : ∃ Wb, Wb = W.putObj D (.loop { R .ready none with state := .busy }) := ⟨_, rfl⟩
      rw [← hWb]
      have hlb : Wb.heap[D]? = some (.loop { R .ready none with state := .busy }) := by rw [hWb]; exact World.putObj_heap_same hlt
      have hob : OffX (TurnN D) W Wb := by rw [hWb]; exact .put _ rfl
      have hsb : W.heap.size ≤ Wb.heap.size := hob.size
      have hkx : KeepX Kp W Wb := ⟨hsb, fun k hk => by
        rw [hWb]; exact World.putObj_heap_other (by have := hB k hk; omega)⟩
      refine wpIn_mono (hbody Wb hob (hI _ _ _ hi hob)) ?_
      have fin : ∀ (jump : Option Code) (W3 : World), KeepX (BodyN Kp D) Wb W3 → ∃ W4, (Instr.endRound D jump).run P W3 = .ok (.bool jump.isNone) W4 ∧ OffX (TurnN D) W3 W4 ∧ KeepX Kp W0 W4 ∧
          W4.heap[D]? = some (.loop (R (if jump.isNone then .ready else .done) jump)) := by
        intro jump W3 hk3
        have hl3 : W3.heap[D]? = some (.loop { R .ready none with state := .busy }) := (hk3.2 _ (.inr rfl)).trans hlb
        have he := run_endRound (P := P) jump hl3
        refine ⟨_, he, .put _ rfl, hk00.trans (hkx.trans ((hk3.mono fun k h => .inl h).trans ⟨(OffX.put (X := TurnN D) _ rfl).size, fun k hk => World.putObj_heap_other (by have := hB k hk; omega)⟩)), ?_⟩
        rw [World.putObj_heap_same (Array.getElem?_eq_some_iff.1 hl3).1, hR]
      rintro e a3 W3 hp
      cases e with
      | normal =>
        obtain ⟨hk3, hi3⟩ := hp
        obtain ⟨W4, r1, r2, r3, r4⟩ := fin none W3 hk3
        exact ⟨_, _, r1, .inl ⟨rfl, ⟨hI _ _ _ hi3 r2, r4⟩, r3⟩⟩
      | ret =>
        obtain ⟨hk3, hi3⟩ := hp
        obtain ⟨W4, r1, r2, r3, r4⟩ := fin (some .ret) W3 hk3
        exact ⟨_, _, r1, .inr ⟨rfl, .ret, hIx _ _ _ _ hi3 r2, r4⟩⟩
      | exit id =>
        obtain ⟨hk3, hi3⟩ := hp
        obtain ⟨W4, r1, r2, r3, r4⟩ := fin (some (.exit id)) W3 hk3
        exact ⟨_, _, r1, .inr ⟨rfl, .exit id, hIx _ _ _ _ hi3 r2, r4⟩⟩
      | goto t =>
        obtain ⟨hk3, hi3⟩ := hp
        obtain ⟨W4, r1, r2, r3, r4⟩ := fin (some (.goto t)) W3 hk3
        exact ⟨_, _, r1, .inr ⟨rfl, .goto t, hIx _ _ _ _ hi3 r2, r4⟩⟩
      | panic ch => exact hp.elim
      | outgrown => exact hp.elim
    · rintro e W2 ⟨⟨v, rfl⟩, ⟨hi, hl⟩ | ⟨pre, hpp, c, hi, hl⟩⟩
      · obtain ⟨e1, e2, e3, e4, e5, e6, e7⟩ := isR .ready none
        have he := run_endLoop (P := P) hl (by rw [e6]; simp)
        rw [e7] at he
        exact ⟨none, _, he, hdone _ (hI _ _ _ hi (.put _ rfl))⟩
      · obtain ⟨e1, e2, e3, e4, e5, e6, e7⟩ := isR .done (some c)
        have he := run_endLoop (P := P) hl (by rw [e6]; simp)
        rw [e7] at he
        exact ⟨some c, _, he, hstop c pre _ hpp (hIx _ _ _ _ hi (.put _ rfl))⟩

end Go.Proofs.YtkdomobedfhhgaaGreat
end
