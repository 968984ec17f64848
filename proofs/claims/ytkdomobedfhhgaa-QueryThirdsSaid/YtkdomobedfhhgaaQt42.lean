/-
  Walk of package query: labels by their nodes.
-/
import Derived.Test.YtkdomobedfhhgaaProg
import Derived.Test.YtkdomobedfhhgaaQt35
set_option linter.unusedVariables false
set_option linter.unusedSimpArgs false
set_option linter.unnecessarySimpa false
namespace Go.Proofs.Ytkdomobedfhhgaa
open Go Go.Proofs Go.RowKit Go.Shelf Go.Proofs.Ytkdomobedfhhgaa.Hp Go.Proofs.Ytkdomobedfhhgaa.Ch

structure LB where
  v : Int
  d : Int
  b : Int
def flatB : List LB → List Value
  | [] => []
  | x :: l => .int .i64 x.v :: .int .u64 x.d :: .int .i64 x.b :: flatB l
theorem flatB_get : ∀ (l : List LB) (k : Nat) (h : k < l.length), (flatB l)[k * 3]? = some (.int .i64 l[k].v) ∧ (flatB l)[k * 3 + 1]? = some (.int .u64 l[k].d) ∧ (flatB l)[k * 3 + 2]? = some (.int .i64 l[k].b)
  | x :: l, 0, _ => ⟨rfl, rfl, rfl⟩
  | x :: l, k + 1, h => by
    have ih := flatB_get l k (by simpa using h)
    have e1 : (k + 1) * 3 = k * 3 + 1 + 1 + 1 := by omega
    simp only [e1, flatB, List.getElem?_cons_succ, List.getElem_cons_succ]
    exact ih
theorem Cel.lab {w : World} {ao : Option Addr} {l : List LB} (h : Cel w ao (flatB l)) {i : Nat} (hi : i < l.length) :
    ∃ b o, ao = some ⟨b, o, none⟩ ∧ w.cell? ⟨b, o + i * 3, none⟩ = some (.int .i64 l[i].v) ∧ w.cell? ⟨b, o + i * 3 + 1, none⟩ = some (.int .u64 l[i].d) ∧ w.cell? ⟨b, o + i * 3 + 2, none⟩ = some (.int .i64 l[i].b) := by
  obtain ⟨h1, h2, h3⟩ := flatB_get l i hi
  obtain ⟨b, o, e, c1⟩ := h _ _ h1
  obtain ⟨b', o', e', c2⟩ := h _ _ h2
  obtain ⟨b'', o'', e'', c3⟩ := h _ _ h3
  rw [e] at e' e''
  cases e'
  cases e''
  exact ⟨b, o, e, c1, by rw [Nat.add_assoc]; exact c2, by rw [Nat.add_assoc]; exact c3⟩
/-- labels by their nodes -/
def byF (l : List LB) : Int → Option Int := l.foldl (fun f x => updM f x.v x.d) (fun _ => none)
theorem byF_take {l : List LB} {k : Nat} (h : k < l.length) : byF (l.take (k + 1)) = updM (byF (l.take k)) l[k].v l[k].d := by
  unfold byF
  rw [List.take_succ_eq_append_getElem h, List.foldl_append]
  rfl
def ByPost (l : List LB) (w : World) (e : Ending) (w' : World) : Prop := ∃ b, e = .returned (.map (some b)) ∧ MapW w' b l.length (byF l) ∧ w.heap.size ≤ b ∧ Below w.heap.size w w'

set_option maxRecDepth 100000 in
set_option maxHeartbeats 2000000 in
theorem byNode_any (l : List LB) (ao : Option Addr) (cap : Nat) (w : World) (hc : Cel w ao (flatB l)) (hl : l.length ≤ 1000000) (hin : ∀ x ∈ l, In6 x.v ∧ 0 ≤ x.d ∧ x.d ≤ 18446744073709551615) :
    Calls Try.prog 14 #[.slice ao l.length cap] w (ByPost l w) := by
  have hmm := @run_makeMap Try.prog
  have HC := Lib.hid hc
  have HIN := Lib.hid hin
  have hl2 : (l.length : Int) ≤ 1000000 := by omega
  have HM0 := Lib.hid (MapW.new w)
  have HL := Lib.hid hl
  unfold ByPost
  clear hc hin
  go_enter Try.func14, Try.ntmps14
  go_wp2
  go_loopg [9] l.length (fun gm v9 wr => ∃ k : Nat, k ≤ l.length ∧ l.length - k ≤ gm ∧ v9 = .int .i64 k ∧ Aside (MapW wr w.heap.size k (byF (l.take k))) ∧ Aside (Below w.heap.size w wr))
  case atStart => exact ⟨0, Nat.zero_le _, by omega, rfl, by rw [List.take_zero]; exact HM0.out, Below.of_al _ _⟩
  case round =>
    obtain ⟨k, hk, hg, rfl, HM, HB⟩ := hrel
    by_cases hlt : k < l.length
    · have hlt2 : (k : Int) < (l.length : Int) := by omega
      have hk0 : (0 : Int) ≤ (k : Int) := by omega
      obtain ⟨lb, lo, rfl, y0, y1, y2⟩ := (HC.out.go HB.out).lab hlt
      obtain ⟨i1, i2⟩ := HIN.out l[k] (List.getElem_mem hlt)
      have HTK := Lib.hid (byF_take hlt)
      generalize l[k] = x at *
      obtain ⟨w2, hup, hm2, ho2⟩ := (HM.out.go (Below.of_al wr (Obj.cells #[.int .i64 x.v, .int .u64 x.d, .int .i64 x.b] 82))).put (by omega) i1 i2
      have HM2 := Lib.hid (show MapW w2 w.heap.size (k + 1) (byF (l.take (k + 1))) by rw [HTK.out]; exact hm2)
      have HB2 := Lib.hid (show Below w.heap.size w w2 from (HB.out.st (Below.of_al wr _)).trans (ho2.below ((HB.out.st (Below.of_al wr (Obj.cells #[.int .i64 x.v, .int .u64 x.d, .int .i64 x.b] 82))).size) (fun j hj => by have e : j = w.heap.size := hj; omega)))
      clear hm2 ho2 i1 i2
      go_wp2
      go_roundg (l.length - (k + 1))
      case measure => omega
      case rel => exact ⟨k + 1, by omega, Nat.le_refl _, by go_num, HM2.out, HB2.out⟩
    · obtain rfl : k = l.length := by omega
      go_wp2
      go_ret
      have := HM.out
      rw [List.take_length] at this
      exact ⟨_, rfl, this, Nat.le_refl _, HB.out⟩

/-- what both weigh at least, together -/
def nearS (f : Int → Option Int) (best : Int) (x : LB) : Int := match f x.v with
  | some y => min best (x.d + y)
  | none => best
def nearF (f : Int → Option Int) (l : List LB) : Int := l.foldl (nearS f) 4611686018427387904
theorem nearF_take {f : Int → Option Int} {l : List LB} {k : Nat} (h : k < l.length) : nearF f (l.take (k + 1)) = nearS f (nearF f (l.take k)) l[k] := by
  unfold nearF
  rw [List.take_succ_eq_append_getElem h, List.foldl_append]
  rfl

set_option maxRecDepth 100000 in
set_option maxHeartbeats 2000000 in
theorem least_any (l : List LB) (f : Int → Option Int) (ao : Option Addr) (cap b n : Nat) (w : World) (hc : Cel w ao (flatB l)) (hm : MapW w b n f) (hl : l.length ≤ 1000000) (hin : ∀ x ∈ l, In6 x.v ∧ 0 ≤ x.d ∧ x.d ≤ 1152921504606846976) (hf : ∀ u x, f u = some x → 0 ≤ x ∧ x ≤ 1152921504606846976) :
    Calls Try.prog 13 #[.slice ao l.length cap, .map (some b)] w fun e w' => e = .returned (.int .u64 (nearF f l)) ∧ Below w.heap.size w w' := by
  have HC := Lib.hid hc
  have HIN := Lib.hid hin
  have HF := Lib.hid hf
  have HM := Lib.hid hm
  have hl2 : (l.length : Int) ≤ 1000000 := by omega
  clear hc hin hf hm
  go_enter Try.func13, Try.ntmps13
  go_wp2
  go_loopg [5, 12] l.length (fun gm v5 v12 wr => ∃ k : Nat, k ≤ l.length ∧ l.length - k ≤ gm ∧ v12 = .int .i64 k ∧ v5 = .int .u64 (nearF f (l.take k)) ∧ Aside (Below w.heap.size w wr))
  case atStart => exact ⟨0, Nat.zero_le _, by omega, rfl, rfl, Below.refl _ _⟩
  case round =>
    obtain ⟨k, hk, hg, rfl, rfl, HB⟩ := hrel
    by_cases hlt : k < l.length
    · have hlt2 : (k : Int) < (l.length : Int) := by omega
      have hk0 : (0 : Int) ≤ (k : Int) := by omega
      obtain ⟨lb, lo, rfl, y0, y1, y2⟩ := (HC.out.go HB.out).lab hlt
      obtain ⟨i1, d0, d1⟩ := HIN.out l[k] (List.getElem_mem hlt)
      have HTK := Lib.hid (nearF_take (f := f) hlt)
      generalize l[k] = x at *
      generalize nearF f (l.take k) = best at *
      have lk := ((HM.out.go HB.out).go (Below.of_al wr (Obj.cells #[.int .i64 x.v, .int .u64 x.d, .int .i64 x.b] 82))).look i1
      have HB2 := Lib.hid (HB.out.st (Below.of_al wr (Obj.cells #[.int .i64 x.v, .int .u64 x.d, .int .i64 x.b] 82)))
      cases hy : f x.v with
      | none =>
        rw [hy] at lk
        have HN := Lib.hid (show nearF f (l.take (k + 1)) = best by have := HTK.out; unfold nearS at this; rw [hy] at this; exact this)
        simp only [Option.isSome, Option.getD] at lk
        clear hy i1
        go_wp2
        go_roundg (l.length - (k + 1))
        case measure => omega
        case rel => exact ⟨k + 1, by omega, Nat.le_refl _, by go_num, by rw [HN.out], HB2.out⟩
      | some y =>
        rw [hy] at lk
        obtain ⟨e0, e1⟩ := HF.out _ _ hy
        have HN := Lib.hid (show nearF f (l.take (k + 1)) = if x.d + y < best then x.d + y else best by
          have := HTK.out
          unfold nearS at this
          rw [hy] at this
          rw [this]
          show min best (x.d + y) = _
          rw [Int.min_def]
          split <;> split <;> omega)
        simp only [Option.isSome, Option.getD] at lk
        clear hy i1
        by_cases hmn : x.d + y < best
        · have HN2 := Lib.hid (show nearF f (l.take (k + 1)) = x.d + y by rw [HN.out, if_pos hmn])
          go_wp2
          go_roundg (l.length - (k + 1))
          case measure => omega
          case rel => exact ⟨k + 1, by omega, Nat.le_refl _, by go_num, by rw [HN2.out], HB2.out⟩
        · have HN2 := Lib.hid (show nearF f (l.take (k + 1)) = best by rw [HN.out, if_neg hmn])
          go_wp2
          go_roundg (l.length - (k + 1))
          case measure => omega
          case rel => exact ⟨k + 1, by omega, Nat.le_refl _, by go_num, by rw [HN2.out], HB2.out⟩
    · obtain rfl : k = l.length := by omega
      rw [List.take_length]
      go_wp2
      go_ret
      exact ⟨rfl, HB.out⟩

end Go.Proofs.Ytkdomobedfhhgaa
