/-
  Walks of package gtext: what a number may be, how many nodes and edges.
-/
import Derived.Test.YtelcmkccfjdmjaaDoorProg
import Derived.Test.YtelcmkccfjdmjaaDoorGpA
namespace Go.Proofs.YtelcmkccfjdmjaaDoor
open Go.Proofs Go.RowKit Go.Shelf

theorem Cel.off {w w' : World} {ao : Option Addr} {cs : List Value} {R : Nat} (h : Cel w ao cs) (hb : Off R w w') (hn : ∀ x, ao = some x → x.block ≠ R) : Cel w' ao cs := by
  intro i u hu
  obtain ⟨b, o, e, hc⟩ := h i u hu
  exact ⟨b, o, e, hb.cell hc (show b ≠ R from hn _ e)⟩
theorem Cel.offL {w w' : World} {ao : Option Addr} {l : List ByteArray} {R : Nat} (h : Cel w ao (l.map encS)) (hb : Off R w w') (hn : l ≠ [] → ∀ x, ao = some x → x.block ≠ R) : Cel w' ao (l.map encS) := by
  by_cases e : l = []
  · subst e; exact Cel.nil _ _
  · exact h.off hb (hn e)
theorem Cel.ltL {w : World} {ao : Option Addr} {l : List ByteArray} (h : Cel w ao (l.map encS)) (hn : l ≠ []) : ∀ x, ao = some x → x.block < w.heap.size := by
  intro x hx
  obtain ⟨b, o, e, hc⟩ := h.at (i := 0) (List.length_pos_iff.2 hn)
  rw [hx] at e
  cases e
  exact World.block_lt_of_cell? _ _ hc
theorem Off.setNew {R : Nat} {a b : World} (h : Off R a b) {p : Addr} (hp : a.heap.size ≤ p.block) (v : Value) : Off R a (b.setCell p v) :=
  ⟨h.os, h.tape, h.output, by have := h.size; simpa [World.setCell] using this, fun k hk hn => (Below.heap_setCell _ _ _ _ (by omega)).trans (h.block k hk hn)⟩

theorem nextS_le {l : List ByteArray} {k : Nat} {f b : Int} {may : Int → Int} (hb : 0 ≤ b) (h : ∀ n, may n = 0 → n ≤ b) : 0 ≤ (nextS l k f may).1 ∧ (nextS l k f may).1 ≤ b := by
  unfold nextS
  split
  · exact ⟨Int.le_refl _, hb⟩
  · split
    · exact ⟨Int.le_refl _, hb⟩
    · split
      · exact ⟨Int.le_refl _, hb⟩
      · split
        · exact ⟨Int.le_refl _, hb⟩
        · rename_i hh
          exact ⟨(valK_le l k).1, h _ (by simpa using hh)⟩
theorem withinF_le {a b f n : Int} (hf : f ≠ 0) (h : withinF a b f n = 0) : n ≤ b := by
  unfold withinF at h
  split at h
  · exact absurd h hf
  · omega
theorem nextS_pos {l : List ByteArray} {k : Nat} {f : Int} {may : Int → Int} (hk : k ≤ l.length) : (nextS l k f may).2.1 ≤ l.length := by
  unfold nextS
  split
  · exact hk
  · split
    · exact hk
    · split
      · exact hk
      · split
        · exact hk
        · simp only; omega

/-- what a closure within holds -/
def Bx (W : World) (B : Nat) (a b f : Int) : Prop := W.cell? ⟨B, 0, none⟩ = some (.int .u64 a) ∧ W.cell? ⟨B + 1, 0, none⟩ = some (.int .u64 b) ∧ W.cell? ⟨B + 2, 0, none⟩ = some (.int .i64 f)
theorem Bx.go {W W' : World} {B : Nat} {a b f : Int} (h : Bx W B a b f) (hb : Below W.heap.size W W') : Bx W' B a b f := ⟨cell_later hb h.1, cell_later hb h.2.1, cell_later hb h.2.2⟩
theorem Bx.off {W W' : World} {B R : Nat} {a b f : Int} (h : Bx W B a b f) (hb : Off R W W') (hn : R < B) : Bx W' B a b f :=
  ⟨hb.cell h.1 (by show B ≠ R; omega), hb.cell h.2.1 (by show B + 1 ≠ R; omega), hb.cell h.2.2 (by show B + 2 ≠ R; omega)⟩
abbrev bxV (B : Nat) : Array Value := #[.pointer (some ⟨B, 0, none⟩), .pointer (some ⟨B + 1, 0, none⟩), .pointer (some ⟨B + 2, 0, none⟩)]

theorem within1_any (n a b f : Int) (B : Nat) (w : World) (h : Bx w B a b f) :
    Calls Tryd.prog 134 (#[.int .u64 n] ++ bxV B) w fun e w' => e = .returned (.int .i64 (withinF a b f n)) ∧ w' = w := by
  obtain ⟨h0, h1, h2⟩ := h
  unfold withinF
  by_cases c1 : n < a
  · go_enter Tryd.func134, Tryd.ntmps134
    go_wp2
    go_ret
    exact ⟨by simp [c1], rfl⟩
  · by_cases c2 : n > b
    · go_enter Tryd.func134, Tryd.ntmps134
      go_wp2
      go_ret
      exact ⟨by simp [c2], rfl⟩
    · go_enter Tryd.func134, Tryd.ntmps134
      go_wp2
      go_ret
      exact ⟨by simp [c1, c2], rfl⟩

theorem within_any (a b f : Int) (w : World) :
    Calls Tryd.prog 111 #[.int .u64 a, .int .u64 b, .int .i64 f] w fun e w' => e = .returned (.func (.func 134) #[] (bxV w.heap.size)) ∧ Bx w' w.heap.size a b f ∧ Below w.heap.size w w' ∧ w'.heap.size = w.heap.size + 3 := by
  go_enter Tryd.func111, Tryd.ntmps111
  go_wp2
  go_ret
  exact ⟨rfl, ⟨by go_simp, by go_simp, by go_simp⟩, by repeat (first | exact Below.refl _ _ | refine Below.al ?_ _ | refine Below.dr ?_ _ | refine Below.drew ?_ | assumption | (refine Below.st ?_ (by assumption))), by simp⟩

theorem within_enters : Enters Tryd.prog 134 := enters_of Tryd.func134 (by kernel_rfl) rfl

set_option maxHeartbeats 1000000 in
theorem first_any (l : List ByteArray) (ao : Option Addr) (cap R : Nat) (w : World) (hrd : Rd w R ao cap l.length 0 0) (hc : Cel w ao (l.map encS)) (hne : l ≠ [] → ∀ x, ao = some x → x.block ≠ R)
    (hsz : ∀ x ∈ l, x.size ≤ 140737488355328) (hl : l.length ≤ 140737488355328) :
    Calls Tryd.prog 81 #[.pointer (some ⟨R, 0, none⟩)] w fun e w' => e = .returned (.tuple #[.int .i64 (firstS l).1, .int .i64 (firstS l).2.1]) ∧ Rd w' R ao cap l.length (firstS l).2.2.1 (firstS l).2.2.2 ∧ Off R w w' := by
  have HD := Lib.hid hrd
  have HC := Lib.hid hc
  have hR := cell_ltP hrd.1
  have HN := Lib.hid (fun k f B may W (h1 : Rd W R ao cap l.length k f) h2 h3 h4 => next_any l ao cap R k f 134 (bxV B) may W h1 h2 hsz hl h3 within_enters h4)
  have HF := Lib.hid (firstS.eq_1 l)
  have hk1 : (nextS l 0 0 (withinF 1 4096 2)).2.1 ≤ l.length := nextS_pos (Nat.zero_le _)
  have hv1 : 0 ≤ (nextS l 0 0 (withinF 1 4096 2)).1 ∧ (nextS l 0 0 (withinF 1 4096 2)).1 ≤ 4096 := nextS_le (by decide) (fun n h => withinF_le (by decide) h)
  have H1 := Lib.hid (fun B W h1 h2 (h4 : Bx W B 1 4096 2) => HN.out 0 0 B (withinF 1 4096 2) W h1 h2 (by decide) (fun n W' _ _ hb => within1_any n 1 4096 2 B W' (h4.go hb)))
  generalize nextS l 0 0 (withinF 1 4096 2) = S1 at *
  have hv2 : 0 ≤ (nextS l S1.2.1 S1.2.2 (withinF 0 16384 5)).1 ∧ (nextS l S1.2.1 S1.2.2 (withinF 0 16384 5)).1 ≤ 16384 := nextS_le (by decide) (fun n h => withinF_le (by decide) h)
  have H2 := Lib.hid (fun B W h1 h2 (h4 : Bx W B 0 16384 5) => HN.out S1.2.1 S1.2.2 B (withinF 0 16384 5) W h1 h2 (by omega) (fun n W' _ _ hb => within1_any n 0 16384 5 B W' (h4.go hb)))
  generalize nextS l S1.2.1 S1.2.2 (withinF 0 16384 5) = S2 at *
  generalize firstS l = r at *
  obtain ⟨v1, k1, f1⟩ := S1
  obtain ⟨v2, k2, f2⟩ := S2
  simp only at hv1 hv2 HF H2
  clear hrd hc HN hk1
  go_enter Tryd.func81, Tryd.ntmps81
  go_wp2_with fail
  refine (within_any 1 4096 2 _).mono ?_
  rintro e w1 ⟨rfl, hx1, hb1, hz1⟩
  have HX1 := Lib.hid hx1
  have HB1 := Lib.hid hb1
  clear hx1 hb1
  go_wp2_with fail
  refine (H1.out _ _ (HD.out.go HB1.out) (HC.out.go HB1.out) HX1.out).mono ?_
  rintro e w2 ⟨rfl, hd2, ho2⟩
  have HD2 := Lib.hid hd2
  have HO2 := Lib.hid ((Off.of_below HB1.out).trans ho2)
  clear hd2 ho2
  go_wp2_with fail
  refine (within_any 0 16384 5 _).mono ?_
  rintro e w3 ⟨rfl, hx3, hb3, hz3⟩
  have HX3 := Lib.hid hx3
  have HB3 := Lib.hid hb3
  clear hx3 hb3
  go_wp2_with fail
  refine (H2.out _ _ (HD2.out.go HB3.out) ((HC.out.offL HO2.out hne).go HB3.out) HX3.out).mono ?_
  rintro e w4 ⟨rfl, hd4, ho4⟩
  have HD4 := Lib.hid hd4
  have HO4 := Lib.hid ((HO2.out.st HB3.out).trans ho4)
  clear hd4 ho4
  go_wp2
  go_ret2
  exact ⟨by rw [HF.out]; first | rfl | (simp only [IntWalk.i64_in _ (show _ by omega)]; rfl), by rw [HF.out]; exact HD4.out, HO4.out⟩

end Go.Proofs.YtelcmkccfjdmjaaDoor
