/-
  Rows that forget at once, in memory, and the walk of package stamp.
-/
import Derived.Test.YtkdomobedfhhgaaProg
import Derived.Test.YtkdomobedfhhgaaQt05
import Derived.Laws.EntriesVeiled
set_option linter.unusedVariables false
set_option linter.unusedSimpArgs false
set_option linter.unnecessarySimpa false
namespace Go.Proofs.Ytkdomobedfhhgaa
open Go Go.Proofs Go.RowKit Go.Shelf

def flatO : List (Option Int) → List Value
  | [] => []
  | none :: l => .int .u64 0 :: .int .u64 0 :: flatO l
  | some v :: l => .int .u64 v :: .int .u64 1 :: flatO l
theorem flatO_len : ∀ l, (flatO l).length = l.length * 2
  | [] => rfl
  | none :: l => by rw [flatO]; simp [flatO_len l]; omega
  | some v :: l => by rw [flatO]; simp [flatO_len l]; omega
def valO (o : Option Int) : Int := o.getD 0
def timO (o : Option Int) : Int := if o.isSome then 1 else 0
theorem flatO_get : ∀ (l : List (Option Int)) (k : Nat) (h : k < l.length), (flatO l)[k * 2]? = some (.int .u64 (valO l[k])) ∧ (flatO l)[k * 2 + 1]? = some (.int .u64 (timO l[k]))
  | none :: l, 0, _ => ⟨rfl, rfl⟩
  | some v :: l, 0, _ => ⟨rfl, rfl⟩
  | none :: l, k + 1, h => by
    have := flatO_get l k (by simpa using h)
    rw [show (k + 1) * 2 = k * 2 + 2 by omega]
    exact this
  | some v :: l, k + 1, h => by
    have := flatO_get l k (by simpa using h)
    rw [show (k + 1) * 2 = k * 2 + 2 by omega]
    exact this
theorem flatO_set : ∀ (l : List (Option Int)) (k : Nat) (v : Int), ((flatO l).set (k * 2) (.int .u64 v)).set (k * 2 + 1) (.int .u64 1) = flatO (l.set k (some v))
  | [], k, y => by simp [flatO]
  | none :: l, 0, y => rfl
  | some v :: l, 0, y => rfl
  | none :: l, k + 1, y => by
    have := flatO_set l k y
    rw [show (k + 1) * 2 = k * 2 + 2 by omega]
    show Value.int .u64 0 :: Value.int .u64 0 :: (((flatO l).set (k * 2) _).set (k * 2 + 1) _) = _
    rw [this]
    rfl
  | some v :: l, k + 1, y => by
    have := flatO_set l k y
    rw [show (k + 1) * 2 = k * 2 + 2 by omega]
    show Value.int .u64 v :: Value.int .u64 1 :: (((flatO l).set (k * 2) _).set (k * 2 + 1) _) = _
    rw [this]
    rfl

/-- a row in memory -/
structure StW (w : World) (b rb : Nat) (s : List (Option Int)) : Prop where
  pb : ∃ m, PB w b [.slice (some ⟨rb, 0, none⟩) s.length s.length, .int .u64 1, .int .i64 m]
  ol : w.ownsRow 0 155 2 (.slice (some ⟨rb, 0, none⟩) s.length s.length) s.length (flatO s)
  d : rb ≠ b
def SX (b rb k : Nat) : Prop := k = b ∨ k = rb
theorem StW.go {w w' : World} {b rb : Nat} {s : List (Option Int)} (h : StW w b rb s) (hb : Below w.heap.size w w') : StW w' b rb s := by
  obtain ⟨m, h1⟩ := h.pb
  exact ⟨⟨m, h1.go hb⟩, hp_owns_go h.ol hb, h.d⟩
theorem StW.lt {w : World} {b rb : Nat} {s : List (Option Int)} (h : StW w b rb s) : b < w.heap.size ∧ rb < w.heap.size := by
  obtain ⟨m, h1⟩ := h.pb
  exact ⟨h1.lt, (h.ol.lt rb rfl).2⟩
theorem StW.off {X : Nat → Prop} {w w' : World} {b rb : Nat} {s : List (Option Int)} (h : StW w b rb s) (ho : OffX X w w') (h1 : ¬ X b) (h2 : ¬ X rb) : StW w' b rb s := by
  obtain ⟨m, p1⟩ := h.pb
  refine ⟨⟨m, p1.eq (ho.block b h.lt.1 h1)⟩, ?_, h.d⟩
  refine ⟨h.ol.1, ?_⟩
  rcases h.ol.2 with h2' | ⟨g, cap, cur, hv, hbg, hg, r⟩
  · exact .inl h2'
  · cases hv
    exact .inr ⟨_, _, cur, rfl, hbg, by rw [ho.block _ h.lt.2 h2]; exact hg, r⟩

set_option maxRecDepth 100000 in
set_option maxHeartbeats 1000000 in
theorem sLen_any (b rb : Nat) (s : List (Option Int)) (w : World) (h : StW w b rb s) :
    Calls Try.prog 93 #[.pointer (some ⟨b, 0, none⟩)] w fun e w' => e = .returned (.int .i64 s.length) ∧ w' = w := by
  obtain ⟨m, hp⟩ := h.pb
  obtain ⟨p0, -⟩ := hp 0 _ rfl
  clear h hp
  go_enter Try.func93, Try.ntmps93
  go_wp2
  go_ret
  exact ⟨rfl, rfl⟩

set_option maxRecDepth 100000 in
set_option maxHeartbeats 1000000 in
theorem sAt_any (b rb i : Nat) (s : List (Option Int)) (w : World) (h : StW w b rb s) (hi : i < s.length) :
    Calls Try.prog 81 #[.pointer (some ⟨b, 0, none⟩), .int .i64 i] w fun e w' => e = .returned (.pointer (some ⟨rb, i * 2, none⟩)) ∧ w' = w := by
  have HL := Lib.hid (sLen_any b rb s w h)
  obtain ⟨m, hp⟩ := h.pb
  obtain ⟨p0, -⟩ := hp 0 _ rfl
  have hi0 : (0 : Int) ≤ (i : Int) := by omega
  have hi1 : (i : Int) < (s.length : Int) := by omega
  clear h hp
  go_enter Try.func81, Try.ntmps81
  go_wp2_with (go_at_call 93; refine HL.out.mono ?_; rintro e w1 ⟨rfl, rfl⟩)
  go_ret
  exact ⟨rfl, rfl⟩

set_option maxRecDepth 100000 in
set_option maxHeartbeats 1000000 in
theorem sGet_any (b rb i : Nat) (s : List (Option Int)) (w : World) (h : StW w b rb s) (hi : i < s.length) :
    Calls Try.prog 74 #[.pointer (some ⟨b, 0, none⟩), .int .i64 i] w fun e w' => e = .returned (.tuple #[.int .u64 (valO s[i]), .bool s[i].isSome]) ∧ Below w.heap.size w w' := by
  have HA := Lib.hid (sAt_any b rb i s w h hi)
  obtain ⟨m, hp⟩ := h.pb
  obtain ⟨p1, -⟩ := hp 1 _ rfl
  obtain ⟨r0, r1⟩ := flatO_get s i hi
  have q0 := (h.ol.cellAt (i * 2) (by omega)).trans r0
  have q1 := (h.ol.cellAt (i * 2 + 1) (by omega)).trans r1
  generalize s[i] = o at *
  clear h hp r0 r1
  cases o with
  | none =>
    have q1 : w.cell? ⟨rb, i * 2 + 1, none⟩ = some (.int .u64 0) := q1
    go_enter Try.func74, Try.ntmps74
    go_wp2_with (go_at_call 81; refine HA.out.mono ?_; rintro e w1 ⟨rfl, rfl⟩)
    go_quiet (fail)
    go_wp2
    refine bodyPost_ret (v := .tuple #[.int .u64 0, .bool false]) (by simp [results, Try.results74, go_sem]; try rfl) rfl ?_
    exact ⟨rfl, Below.of_dr _ _⟩
  | some v =>
    have q0 : w.cell? ⟨rb, i * 2, none⟩ = some (.int .u64 v) := q0
    have q1 : w.cell? ⟨rb, i * 2 + 1, none⟩ = some (.int .u64 1) := q1
    go_enter Try.func74, Try.ntmps74
    go_wp2_with (go_at_call 81; refine HA.out.mono ?_; rintro e w1 ⟨rfl, rfl⟩)
    go_quiet (fail)
    go_wp2
    refine bodyPost_ret (v := .tuple #[.int .u64 v, .bool true]) (by simp [results, Try.results74, go_sem]; try rfl) rfl ?_
    exact ⟨rfl, Below.of_dr _ _⟩

theorem StW.many {w : World} {b rb : Nat} {s : List (Option Int)} (h : StW w b rb s) (m : Int) : StW (w.setCell ⟨b, 2, none⟩ (.int .i64 m)) b rb s := by
  obtain ⟨m0, p1⟩ := h.pb
  exact ⟨⟨m, p1.set 2 _⟩, ownsRow_setCell_other (a := ⟨b, 2, none⟩) h.ol (by have := h.d; simpa [Value.ownBlock] using this) _, h.d⟩
theorem StW.cell {w : World} {b rb : Nat} {s : List (Option Int)} (h : StW w b rb s) (i : Nat) (v : Int) :
    StW ((w.setCell ⟨rb, i * 2, none⟩ (.int .u64 v)).setCell ⟨rb, i * 2 + 1, none⟩ (.int .u64 1)) b rb (s.set i (some v)) := by
  obtain ⟨m0, p1⟩ := h.pb
  refine ⟨⟨m0, ?_⟩, ?_, h.d⟩
  · rw [List.length_set]
    exact (p1.setAt h.d _).setAt h.d _
  · have h1 := (h.ol.stored (i * 2) (.int .u64 v)).1
    have h2 := (h1.stored (i * 2 + 1) (.int .u64 1)).1
    rw [flatO_set] at h2
    rw [List.length_set]
    exact h2

set_option maxRecDepth 100000 in
set_option maxHeartbeats 1000000 in
theorem sPut_any (b rb i : Nat) (v : Int) (s : List (Option Int)) (w : World) (h : StW w b rb s) (hi : i < s.length) :
    Calls Try.prog 72 #[.pointer (some ⟨b, 0, none⟩), .int .i64 i, .int .u64 v] w fun e w' => e = .returned (.bool true) ∧ StW w' b rb (s.set i (some v)) ∧ OffX (SX b rb) w w' := by
  have HA := Lib.hid (sAt_any b rb i s w h hi)
  have HH := Lib.hid h
  obtain ⟨m, hp⟩ := h.pb
  obtain ⟨p1, -⟩ := hp 1 _ rfl
  obtain ⟨p2, y2⟩ := hp 2 _ rfl
  obtain ⟨r0, r1⟩ := flatO_get s i hi
  have q0 := (h.ol.cellAt (i * 2) (by omega)).trans r0
  have q1 := (h.ol.cellAt (i * 2 + 1) (by omega)).trans r1
  have z0 := h.ol.frozenAt (i * 2)
  have z1 := h.ol.frozenAt (i * 2 + 1)
  have n1 : (rb = b) = False := by simpa using h.d
  have n2 : (b = rb) = False := by simpa [eq_comm] using h.d
  have HX1 : SX b rb rb := .inr rfl
  have HX2 : SX b rb b := .inl rfl
  generalize s[i] = o at *
  clear h hp r0 r1
  cases o with
  | none =>
    have q0 : w.cell? ⟨rb, i * 2, none⟩ = some (.int .u64 0) := q0
    have q1 : w.cell? ⟨rb, i * 2 + 1, none⟩ = some (.int .u64 0) := q1
    go_enter Try.func72, Try.ntmps72
    go_wp2_with (go_at_call 81; refine HA.out.mono ?_; rintro e w1 ⟨rfl, rfl⟩)
    go_quiet (fail)
    go_wp2
    go_ret
    exact ⟨rfl, ((HH.out.go (Below.of_dr _ nq)).many _).cell i v, (((OffX.of_below (Below.of_dr _ nq)).trans (.set _ HX2)).trans (.set _ HX1)).trans (.set _ HX1)⟩
  | some u =>
    have q0 : w.cell? ⟨rb, i * 2, none⟩ = some (.int .u64 u) := q0
    have q1 : w.cell? ⟨rb, i * 2 + 1, none⟩ = some (.int .u64 1) := q1
    go_enter Try.func72, Try.ntmps72
    go_wp2_with (go_at_call 81; refine HA.out.mono ?_; rintro e w1 ⟨rfl, rfl⟩)
    go_quiet (fail)
    go_wp2
    go_ret
    exact ⟨rfl, (HH.out.go (Below.of_dr _ nq)).cell i v, ((OffX.of_below (Below.of_dr _ nq)).trans (.set _ HX1)).trans (.set _ HX1)⟩

/-- a lesser number is laid -/
def leastF (s : List (Option Int)) (i : Nat) (v : Int) : Bool × List (Option Int) := match s.getD i none with
  | some u => if u ≤ v then (false, s) else (true, s.set i (some v))
  | none => (true, s.set i (some v))
set_option maxRecDepth 100000 in
set_option maxHeartbeats 1000000 in
theorem sLeast_any (b rb i : Nat) (v : Int) (s : List (Option Int)) (w : World) (h : StW w b rb s) (hi : i < s.length) :
    Calls Try.prog 73 #[.pointer (some ⟨b, 0, none⟩), .int .i64 i, .int .u64 v] w fun e w' => e = .returned (.bool (leastF s i v).1) ∧ StW w' b rb (leastF s i v).2 ∧ OffX (SX b rb) w w' := by
  have HG := Lib.hid (sGet_any b rb i s w h hi)
  have HP := Lib.hid (fun W hW => sPut_any b rb i v s W hW hi)
  have HH := Lib.hid h
  have hmf : ∀ (fn : Fn) (first cap : Array Value) (w : World), (Instr.makeFunc fn first cap).run Try.prog w = .ok (.func fn first cap) w := fun _ _ _ _ => rfl
  have hl : leastF s i v = match s[i] with
    | some u => if u ≤ v then (false, s) else (true, s.set i (some v))
    | none => (true, s.set i (some v)) := by
    unfold leastF
    rw [List.getD_eq_getElem?_getD, List.getElem?_eq_getElem hi]
    rfl
  rw [hl]
  clear h hl
  generalize s[i] = o at *
  cases o with
  | none =>
    simp only [valO, Option.isSome, Option.getD] at HG ⊢
    go_enter Try.func73, Try.ntmps73
    go_wp2_with (first
      | (go_at_call 74; refine HG.out.mono ?_; rintro e w1 ⟨rfl, hb1⟩)
      | (go_at_call 72; refine (HP.out _ (HH.out.go hb1)).mono ?_; rintro e w2 ⟨rfl, hs2, ho2⟩))
    go_ret
    exact ⟨rfl, hs2, (OffX.of_below hb1).trans ho2⟩
  | some u =>
    simp only [valO, Option.isSome, Option.getD] at HG ⊢
    by_cases hk : u ≤ v
    · rw [if_pos hk]
      go_enter Try.func73, Try.ntmps73
      go_wp2_with (go_at_call 74; refine HG.out.mono ?_; rintro e w1 ⟨rfl, hb1⟩)
      go_ret
      exact ⟨rfl, HH.out.go hb1, .of_below hb1⟩
    · rw [if_neg hk]
      go_enter Try.func73, Try.ntmps73
      go_wp2_with (first
        | (go_at_call 74; refine HG.out.mono ?_; rintro e w1 ⟨rfl, hb1⟩)
        | (go_at_call 72; refine (HP.out _ (HH.out.go hb1)).mono ?_; rintro e w2 ⟨rfl, hs2, ho2⟩))
      go_ret
      exact ⟨rfl, hs2, (OffX.of_below hb1).trans ho2⟩

theorem PB.new3 (w : World) (T : TypeId) (x0 x1 x2 : Value) : PB (w.alloc (.cells #[x0, x1, x2] T)) w.heap.size [x0, x1, x2] := by
  intro i x hx
  match i with
  | 0 => cases hx; exact ⟨by go_simp, by go_simp⟩
  | 1 => cases hx; exact ⟨by go_simp, by go_simp⟩
  | 2 => cases hx; exact ⟨by go_simp, by go_simp⟩
  | i + 3 => simp at hx
theorem st_elem : Elem Try.prog 155 (.agg #[.int .u64 0, .int .u64 0]) 2 16 := ⟨by kernel_rfl, rfl, by decide⟩
theorem flatO_none (n : Nat) : flatO (List.replicate n none) = List.replicate (n * 2) (.int .u64 0) := by
  induction n with
  | zero => rfl
  | succ n ih =>
    rw [List.replicate_succ, flatO, ih, show (n + 1) * 2 = n * 2 + 1 + 1 by omega, List.replicate_succ, List.replicate_succ]
theorem made_two (n : Nat) : (madeCells (Value.agg #[.int .u64 0, .int .u64 0]).cells (n * 2)).toList = List.replicate (n * 2) (.int .u64 0) := by
  apply List.ext_getElem?
  intro j
  by_cases hj : j < n * 2
  · simp only [madeCells, List.getElem?_replicate, hj]
    simp [Value.cells, hj]
    rcases Nat.mod_two_eq_zero_or_one j with e | e <;> simp [e]
  · simp [madeCells, hj]

set_option maxRecDepth 100000 in
set_option maxHeartbeats 1000000 in
theorem sNew_any (n : Nat) (hn : n ≤ 65536) (w : World) :
    Calls Try.prog 47 #[.int .i64 n] w fun e w' => ∃ b rb, e = .returned (.pointer (some ⟨b, 0, none⟩)) ∧ StW w' b rb (List.replicate n none) ∧ w.heap.size ≤ b ∧ w.heap.size ≤ rb ∧ Below w.heap.size w w' := by
  have h1 : ¬ (n : Int) < 0 := by omega
  have h2 : ¬ (65536 : Int) < (n : Int) := by omega
  have h3 : (0 : Int) ≤ (n : Int) := by omega
  go_enter Try.func47, Try.ntmps47
  go_wp2_with (at_make; go_must ((with_reducible refine wpList_mk 0 155 _ 2 16 st_elem Try.underlying132 n ?_ ?_ ?_ ?_ ?_ ?_ ?_ ?_); rotate_left 4; (· rfl); (· rfl); (· exact ⟨by simp, by simp, by omega, by omega, by simp⟩); intro w1 hown hbl hsz1; (have HO1 := Lib.hid hown; have HB1 := Lib.hid hbl; clear hown hbl)))
  go_ret
  refine ⟨w1.heap.size, rfl, w.heap.size, ⟨⟨0, ?_⟩, ?_, by omega⟩, by omega, Nat.le_refl _, HB1.out.al _⟩
  · rw [List.length_replicate]
    exact PB.new3 _ _ _ _ _
  · have ho := HO1.out
    rw [made_two] at ho
    rw [List.length_replicate, flatO_none]
    exact hp_owns_go ho (Below.of_al _ _)

end Go.Proofs.Ytkdomobedfhhgaa
