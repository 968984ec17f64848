/-
  Walks of package gtext: the reader of words, a number at a time.
  Walks of package gtext: what a number may be, how many nodes and edges.
  Walks of package gtext: an edge more.
-/
import Derived.Test.YtelcmkccfjdmjaaGreatDoorProg
import Derived.Test.YtelcmkccfjdmjaaGreatDoorNum
import Derived.Test.YtelcmkccfjdmjaaGreatDoorGpSpec
import Derived.Laws.EntriesVeiled
namespace Go.Proofs.YtelcmkccfjdmjaaGreatDoor
open Go.Proofs Go.RowKit Go.Shelf

/-- but for block R the world is as it was -/
structure Off (R : Nat) (w w' : World) : Prop where
  os : w'.os = w.os
  tape : w'.tape = w.tape
  output : w'.output = w.output
  size : w.heap.size ≤ w'.heap.size
  block : ∀ k, k < w.heap.size → k ≠ R → w'.heap[k]? = w.heap[k]?
theorem Off.refl (R : Nat) (w : World) : Off R w w := ⟨rfl, rfl, rfl, Nat.le_refl _, fun _ _ _ => rfl⟩
theorem Off.trans {R : Nat} {a b c : World} (h : Off R a b) (k : Off R b c) : Off R a c :=
  ⟨k.os.trans h.os, k.tape.trans h.tape, k.output.trans h.output, Nat.le_trans h.size k.size, fun i hi hn => (k.block i (by have := h.size; omega) hn).trans (h.block i hi hn)⟩
theorem Off.of_below {R : Nat} {w w' : World} (h : Below w.heap.size w w') : Off R w w' := ⟨h.os, h.tape, h.output, h.size, fun k hk _ => h.block k hk⟩
theorem Off.set (R j : Nat) (w : World) (v : Value) : Off R w (w.setCell ⟨R, j, none⟩ v) :=
  ⟨rfl, rfl, rfl, by simp [World.setCell], fun k _ hn => Below.heap_setCell _ _ _ _ hn⟩
theorem Off.st {R : Nat} {a b c : World} (h : Off R a b) (k : Below b.heap.size b c) : Off R a c := h.trans (Off.of_below k)
theorem Off.al {R : Nat} {a b : World} (h : Off R a b) (o : Obj) : Off R a (b.alloc o) := h.st (Below.of_al b o)
theorem Off.below {R B : Nat} {w w' : World} (h : Off R w w') (h1 : B ≤ R) (h2 : B ≤ w.heap.size) : Below B w w' := ⟨h.os, h.tape, h.output, h.size, fun k hk => h.block k (by omega) (by omega)⟩
theorem Off.cell {R : Nat} {w w' : World} {a : Addr} {v : Value} (h : Off R w w') (hc : w.cell? a = some v) (hn : a.block ≠ R) : w'.cell? a = some v :=
  (World.cell?_of_block (w := w) (h.block a.block (World.block_lt_of_cell? _ _ hc) hn)).trans hc
theorem Off.frozen {R : Nat} {w w' : World} {a : Addr} (h : Off R w w') (hl : a.block < w.heap.size) (hn : a.block ≠ R) : w'.frozen? a = w.frozen? a :=
  World.frozen?_of_block (w := w) (h.block a.block hl hn)

/-- the reader: its words, how far it is, and its fault -/
def Rd (w : World) (R : Nat) (ao : Option Addr) (cap n k : Nat) (f : Int) : Prop :=
  w.cell? ⟨R, 0, none⟩ = some (.slice ao n cap) ∧ w.cell? ⟨R, 1, none⟩ = some (.int .i64 k) ∧ w.cell? ⟨R, 2, none⟩ = some (.int .i64 f) ∧ w.frozen? ⟨R, 1, none⟩ = false ∧ w.frozen? ⟨R, 2, none⟩ = false
theorem cell_ltP {w : World} {a : Addr} {v : Value} (h : w.cell? a = some v) : a.block < w.heap.size := World.block_lt_of_cell? _ _ h
theorem Rd.go {w w' : World} {R : Nat} {ao : Option Addr} {cap n k : Nat} {f : Int} (h : Rd w R ao cap n k f) (hb : Below w.heap.size w w') : Rd w' R ao cap n k f :=
  ⟨cell_later hb h.1, cell_later hb h.2.1, cell_later hb h.2.2.1, (hb.frozen (cell_ltP h.2.1)).trans h.2.2.2.1, (hb.frozen (cell_ltP h.2.2.1)).trans h.2.2.2.2⟩
theorem Rd.off {w w' : World} {R Q : Nat} {ao : Option Addr} {cap n k : Nat} {f : Int} (h : Rd w R ao cap n k f) (hb : Off Q w w') (hn : R ≠ Q) : Rd w' R ao cap n k f :=
  ⟨hb.cell h.1 hn, hb.cell h.2.1 hn, hb.cell h.2.2.1 hn, (hb.frozen (cell_ltP h.2.1) hn).trans h.2.2.2.1, (hb.frozen (cell_ltP h.2.2.1) hn).trans h.2.2.2.2⟩
theorem Rd.fault {w : World} {R : Nat} {ao : Option Addr} {cap n k : Nat} {f : Int} (h : Rd w R ao cap n k f) (f' : Int) : Rd (w.setCell ⟨R, 2, none⟩ (.int .i64 f')) R ao cap n k f' := by
  obtain ⟨h0, h1, h2, h3, h4⟩ := h
  refine ⟨?_, ?_, World.cell?_setCell_same _ _ _ h2, ?_, ?_⟩
  · rw [World.cell?_setCell_other _ _ _ _ (by simp)]; exact h0
  · rw [World.cell?_setCell_other _ _ _ _ (by simp)]; exact h1
  · rw [World.frozen?_setCell]; exact h3
  · rw [World.frozen?_setCell]; exact h4
theorem Rd.on {w : World} {R : Nat} {ao : Option Addr} {cap n k : Nat} {f : Int} (h : Rd w R ao cap n k f) : Rd (w.setCell ⟨R, 1, none⟩ (.int .i64 ((k + 1 : Nat) : Int))) R ao cap n (k + 1) f := by
  obtain ⟨h0, h1, h2, h3, h4⟩ := h
  refine ⟨?_, World.cell?_setCell_same _ _ _ h1, ?_, ?_, ?_⟩
  · rw [World.cell?_setCell_other _ _ _ _ (by simp)]; exact h0
  · rw [World.cell?_setCell_other _ _ _ _ (by simp)]; exact h2
  · rw [World.frozen?_setCell]; exact h3
  · rw [World.frozen?_setCell]; exact h4

/-- what next leaves -/
def NextPost (w : World) (R : Nat) (ao : Option Addr) (cap n : Nat) (r : Int × Nat × Int) (e : Ending) (w' : World) : Prop :=
  e = .returned (.int .u64 r.1) ∧ Rd w' R ao cap n r.2.1 r.2.2 ∧ Off R w w'

set_option maxHeartbeats 4000000 in
theorem next_any (l : List ByteArray) (ao : Option Addr) (cap R k : Nat) (f : Int) (g : Nat) (cb : Array Value) (may : Int → Int) (w : World) (hrd : Rd w R ao cap l.length k f) (hc : Cel w ao (l.map encS))
    (hsz : ∀ x ∈ l, x.size ≤ 140737488355328) (hl : l.length ≤ 140737488355328) (hk : k ≤ 140737488355328) (hen : Enters Tryz.prog g)
    (hm : ∀ (n : Int) W, 0 ≤ n → n < 18446744073709551616 → Below w.heap.size w W → Calls Tryz.prog g (#[.int .u64 n] ++ cb) W fun e w' => e = .returned (.int .i64 (may n)) ∧ w' = W) :
    Calls Tryz.prog 186 #[.pointer (some ⟨R, 0, none⟩), .func (.func g) #[] cb] w (NextPost w R ao cap l.length (nextS l k f may)) := by
  have HM := Lib.hid hm
  have HC := Lib.hid hc
  have HD := Lib.hid hrd
  obtain ⟨c0, c1, c2, z1, z2⟩ := hrd
  unfold Enters at hen
  clear hm hc
  by_cases hf : f = 0
  · subst hf
    by_cases h1 : l.length ≤ k
    · have HN := Lib.hid (show nextS l k 0 may = (0, k, 3) by unfold nextS; rw [if_neg (by simp), if_pos h1])
      generalize nextS l k 0 may = r at *
      go_enter Tryz.func186, Tryz.ntmps186
      go_wp2
      go_quiet (fail)
      have HB1 := Lib.hid (below_drewN (Below.refl _ w) nq : Below w.heap.size w (w.drewN nq))
      generalize w.drewN nq = W at HB1 ⊢
      have HD1 := Lib.hid (HD.out.go HB1.out)
      obtain ⟨d0, d1, d2, y1, y2⟩ := HD1.out
      go_wp2
      go_ret
      exact ⟨by rw [HN.out]; rfl, by rw [HN.out]; exact HD1.out.fault 3, (Off.of_below HB1.out).trans (Off.set _ _ _ _)⟩
    · have hlt : k < l.length := by omega
      have hg : l.getD k ByteArray.empty = l[k] := by rw [List.getD_eq_getElem?_getD, List.getElem?_eq_getElem hlt]; rfl
      have HV := Lib.hid (show valK l k = (parseI l[k]).1 by unfold valK; rw [hg])
      have HN := Lib.hid (show nextS l k 0 may = if (parseI l[k]).2 ≠ 0 then (0, k, 3) else if may (parseI l[k]).1 ≠ 0 then (0, k, may (parseI l[k]).1) else ((parseI l[k]).1, k + 1, 0) by
        unfold nextS; rw [if_neg (by simp), if_neg h1, hg, HV.out])
      have hx := hsz l[k] (List.getElem_mem hlt)
      obtain ⟨b, o, hao, hx1⟩ := HC.out.at hlt
      have hp := parseI_le l[k]
      have HP := Lib.hid (fun W => Parse_any l[k] W hx)
      clear HV hg
      generalize nextS l k 0 may = r at *
      generalize l[k] = x at *
      generalize parseI x = q at *
      obtain ⟨n, pf⟩ := q
      simp only at HN hp
      subst hao
      have hlt2 : (k : Int) < (l.length : Int) := by omega
      have hk0 : (0 : Int) ≤ (k : Int) := by omega
      by_cases h2 : pf = 0
      · subst h2
        have HM2 := Lib.hid (fun W => HM.out n W hp.1 hp.2)
        rw [if_neg (by simp)] at HN
        generalize may n = m at *
        by_cases h3 : m = 0
        · subst h3
          rw [if_neg (by simp)] at HN
          have hkw : IntKind.i64.wrap ((k : Int) + 1) = ((k + 1 : Nat) : Int) := by rw [IntWalk.i64_in _ (by omega)]; omega
          go_enter Tryz.func186, Tryz.ntmps186
          go_wp2
          go_quiet (fail)
          have HB1 := Lib.hid (below_drewN (Below.refl _ w) nq : Below w.heap.size w (w.drewN nq))
          generalize w.drewN nq = W at HB1 ⊢
          have HD1 := Lib.hid (HD.out.go HB1.out)
          obtain ⟨d0, d1, d2, y1, y2⟩ := HD1.out
          clear c0 c1 c2 z1 z2
          go_wp2_with fail
          have hx2 := cell_later HB1.out hx1
          have D0 := fun p => cell_ext p d0
          have D1 := fun p => cell_ext p d1
          have D2 := fun p => cell_ext p hx2
          refine wp_region_ext (by kernel_rfl) (by kernel_rfl) ?_
          repeat (go_big_quiet_step ((go_at_call 80; exact Calls.ext_of (HP.out _))))
          refine wpQuiet_nil ?_
          rintro _ ⟨p2x, rfl⟩
          have HB2x := Lib.hid (below_ext W p2x)
          generalize ext W p2x = w2x at HB2x ⊢
          clear D0 D1 D2 d0 d1 d2 y1 y2 hx2 hx1
          have HB2 := Lib.hid (HB1.out.st HB2x.out)
          have HD2 := Lib.hid (HD1.out.go HB2x.out)
          obtain ⟨d0, d1, d2, y1, y2⟩ := HD2.out
          go_wp2_with (go_at_fn g; refine (HM2.out _ HB2.out).mono ?_; rintro e w3 ⟨rfl, rfl⟩)
          go_ret
          exact ⟨by rw [HN.out]; rfl, by rw [HN.out]; first | exact (HD2.out.fault 0).on | (rw [← hkw]; exact (HD2.out.fault 0).on), ((Off.of_below HB2.out).trans (Off.set _ _ _ _)).trans (Off.set _ _ _ _)⟩
        · rw [if_pos h3] at HN
          have h3' : (m != 0) = true := by simpa using h3
          go_enter Tryz.func186, Tryz.ntmps186
          go_wp2
          go_quiet (fail)
          have HB1 := Lib.hid (below_drewN (Below.refl _ w) nq : Below w.heap.size w (w.drewN nq))
          generalize w.drewN nq = W at HB1 ⊢
          have HD1 := Lib.hid (HD.out.go HB1.out)
          obtain ⟨d0, d1, d2, y1, y2⟩ := HD1.out
          clear c0 c1 c2 z1 z2
          go_wp2_with fail
          have hx2 := cell_later HB1.out hx1
          have D0 := fun p => cell_ext p d0
          have D1 := fun p => cell_ext p d1
          have D2 := fun p => cell_ext p hx2
          refine wp_region_ext (by kernel_rfl) (by kernel_rfl) ?_
          repeat (go_big_quiet_step ((go_at_call 80; exact Calls.ext_of (HP.out _))))
          refine wpQuiet_nil ?_
          rintro _ ⟨p2x, rfl⟩
          have HB2x := Lib.hid (below_ext W p2x)
          generalize ext W p2x = w2x at HB2x ⊢
          clear D0 D1 D2 d0 d1 d2 y1 y2 hx2 hx1
          have HB2 := Lib.hid (HB1.out.st HB2x.out)
          have HD2 := Lib.hid (HD1.out.go HB2x.out)
          obtain ⟨d0, d1, d2, y1, y2⟩ := HD2.out
          go_wp2_with (go_at_fn g; refine (HM2.out _ HB2.out).mono ?_; rintro e w3 ⟨rfl, rfl⟩)
          go_ret
          exact ⟨by rw [HN.out]; rfl, by rw [HN.out]; exact HD2.out.fault m, (Off.of_below HB2.out).trans (Off.set _ _ _ _)⟩
      · rw [if_pos h2] at HN
        have h2' : (pf != 0) = true := by simpa using h2
        clear HM
        go_enter Tryz.func186, Tryz.ntmps186
        go_wp2
        go_quiet (fail)
        have HB1 := Lib.hid (below_drewN (Below.refl _ w) nq : Below w.heap.size w (w.drewN nq))
        generalize w.drewN nq = W at HB1 ⊢
        have HD1 := Lib.hid (HD.out.go HB1.out)
        obtain ⟨d0, d1, d2, y1, y2⟩ := HD1.out
        clear c0 c1 c2 z1 z2
        go_wp2_with fail
        have hx2 := cell_later HB1.out hx1
        have D0 := fun p => cell_ext p d0
        have D1 := fun p => cell_ext p d1
        have D2 := fun p => cell_ext p hx2
        refine wp_region_ext (by kernel_rfl) (by kernel_rfl) ?_
        repeat (go_big_quiet_step ((go_at_call 80; exact Calls.ext_of (HP.out _))))
        refine wpQuiet_nil ?_
        rintro _ ⟨p2x, rfl⟩
        have HB2x := Lib.hid (below_ext W p2x)
        generalize ext W p2x = w2x at HB2x ⊢
        clear D0 D1 D2 d0 d1 d2 y1 y2 hx2 hx1
        have HB2 := Lib.hid (HB1.out.st HB2x.out)
        have HD2 := Lib.hid (HD1.out.go HB2x.out)
        obtain ⟨d0, d1, d2, y1, y2⟩ := HD2.out
        go_wp2
        go_ret
        exact ⟨by rw [HN.out]; rfl, by rw [HN.out]; exact HD2.out.fault 3, (Off.of_below HB2.out).trans (Off.set _ _ _ _)⟩
  · have HN := Lib.hid (show nextS l k f may = (0, k, f) from nextS_stop hf)
    have hf' : (f != 0) = true := by simpa using hf
    generalize nextS l k f may = r at *
    go_enter Tryz.func186, Tryz.ntmps186
    go_wp2
    go_ret
    exact ⟨by rw [HN.out]; rfl, by rw [HN.out]; exact HD.out, Off.refl _ _⟩

end Go.Proofs.YtelcmkccfjdmjaaGreatDoor

namespace Go.Proofs.YtelcmkccfjdmjaaGreatDoor
open Go.Proofs Go.RowKit Go.Shelf

theorem Cel.off {w w' : World} {ao : Option Addr} {cs : List Value} {R : Nat} (h : Cel w ao cs) (hb : Off R w w') (hn : ∀ x, ao = some x → x.block ≠ R) : Cel w' ao cs := by
  intro i u hu
  obtain ⟨b, o, e, hc⟩ := h i u hu
  exact ⟨b, o, e, hb.cell hc (show b ≠ R from hn _ e)⟩
theorem Cel.offL {w w' : World} {ao : Option Addr} {l : List ByteArray} {R : Nat} (h : Cel w ao (l.map encS)) (hb : Off R w w') (hn : l ≠ [] → ∀ x, ao = some x → x.block ≠ R) : Cel w' ao (l.map encS) := by
  by_cases e : l = []
  · subst e; exact Cel.nil _ _
  · exact h.off hb (hn e)
theorem Cel.ltL {w : World} {ao : Option Addr} {l : List ByteArray} (h : Cel w ao (l.map encS)) (hn : l ≠ []) : ∀ x, ao = some x → x.block < w.heap.size := by
  intro x hx
  obtain ⟨b, o, e, hc⟩ := h.at (i := 0) (List.length_pos_iff.2 hn)
  rw [hx] at e
  cases e
  exact World.block_lt_of_cell? _ _ hc
theorem Off.setNew {R : Nat} {a b : World} (h : Off R a b) {p : Addr} (hp : a.heap.size ≤ p.block) (v : Value) : Off R a (b.setCell p v) :=
  ⟨h.os, h.tape, h.output, by have := h.size; simpa [World.setCell] using this, fun k hk hn => (Below.heap_setCell _ _ _ _ (by omega)).trans (h.block k hk hn)⟩

theorem nextS_le {l : List ByteArray} {k : Nat} {f b : Int} {may : Int → Int} (hb : 0 ≤ b) (h : ∀ n, may n = 0 → n ≤ b) : 0 ≤ (nextS l k f may).1 ∧ (nextS l k f may).1 ≤ b := by
  unfold nextS
  split
  · exact ⟨Int.le_refl _, hb⟩
  · split
    · exact ⟨Int.le_refl _, hb⟩
    · split
      · exact ⟨Int.le_refl _, hb⟩
      · split
        · exact ⟨Int.le_refl _, hb⟩
        · rename_i hh
          exact ⟨(valK_le l k).1, h _ (by simpa using hh)⟩
theorem withinF_le {a b f n : Int} (hf : f ≠ 0) (h : withinF a b f n = 0) : n ≤ b := by
  unfold withinF at h
  split at h
  · exact absurd h hf
  · omega
theorem nextS_pos {l : List ByteArray} {k : Nat} {f : Int} {may : Int → Int} (hk : k ≤ l.length) : (nextS l k f may).2.1 ≤ l.length := by
  unfold nextS
  split
  · exact hk
  · split
    · exact hk
    · split
      · exact hk
      · split
        · exact hk
        · simp only; omega

/-- what a closure within holds -/
def Bx (W : World) (B : Nat) (a b f : Int) : Prop := W.cell? ⟨B, 0, none⟩ = some (.int .u64 a) ∧ W.cell? ⟨B + 1, 0, none⟩ = some (.int .u64 b) ∧ W.cell? ⟨B + 2, 0, none⟩ = some (.int .i64 f)
theorem Bx.go {W W' : World} {B : Nat} {a b f : Int} (h : Bx W B a b f) (hb : Below W.heap.size W W') : Bx W' B a b f := ⟨cell_later hb h.1, cell_later hb h.2.1, cell_later hb h.2.2⟩
theorem Bx.off {W W' : World} {B R : Nat} {a b f : Int} (h : Bx W B a b f) (hb : Off R W W') (hn : R < B) : Bx W' B a b f :=
  ⟨hb.cell h.1 (by show B ≠ R; omega), hb.cell h.2.1 (by show B + 1 ≠ R; omega), hb.cell h.2.2 (by show B + 2 ≠ R; omega)⟩
abbrev bxV (B : Nat) : Array Value := #[.pointer (some ⟨B, 0, none⟩), .pointer (some ⟨B + 1, 0, none⟩), .pointer (some ⟨B + 2, 0, none⟩)]

theorem within1_any (n a b f : Int) (B : Nat) (w : World) (h : Bx w B a b f) :
    Calls Tryz.prog 205 (#[.int .u64 n] ++ bxV B) w fun e w' => e = .returned (.int .i64 (withinF a b f n)) ∧ w' = w := by
  obtain ⟨h0, h1, h2⟩ := h
  unfold withinF
  by_cases c1 : n < a
  · go_enter Tryz.func205, Tryz.ntmps205
    go_wp2
    go_ret
    exact ⟨by simp [c1], rfl⟩
  · by_cases c2 : n > b
    · go_enter Tryz.func205, Tryz.ntmps205
      go_wp2
      go_ret
      exact ⟨by simp [c2], rfl⟩
    · go_enter Tryz.func205, Tryz.ntmps205
      go_wp2
      go_ret
      exact ⟨by simp [c1, c2], rfl⟩

theorem within_any (a b f : Int) (w : World) :
    Calls Tryz.prog 187 #[.int .u64 a, .int .u64 b, .int .i64 f] w fun e w' => e = .returned (.func (.func 205) #[] (bxV w.heap.size)) ∧ Bx w' w.heap.size a b f ∧ Below w.heap.size w w' ∧ w'.heap.size = w.heap.size + 3 := by
  go_enter Tryz.func187, Tryz.ntmps187
  go_wp2
  go_ret
  exact ⟨rfl, ⟨by go_simp, by go_simp, by go_simp⟩, by repeat (first | exact Below.refl _ _ | refine Below.al ?_ _ | refine Below.dr ?_ _ | refine Below.drew ?_ | assumption | (refine Below.st ?_ (by assumption))), by simp⟩

theorem within_enters : Enters Tryz.prog 205 := enters_of Tryz.func205 (by kernel_rfl) rfl

set_option maxHeartbeats 1000000 in
theorem first_any (l : List ByteArray) (ao : Option Addr) (cap R : Nat) (w : World) (hrd : Rd w R ao cap l.length 0 0) (hc : Cel w ao (l.map encS)) (hne : l ≠ [] → ∀ x, ao = some x → x.block ≠ R)
    (hsz : ∀ x ∈ l, x.size ≤ 140737488355328) (hl : l.length ≤ 140737488355328) :
    Calls Tryz.prog 152 #[.pointer (some ⟨R, 0, none⟩)] w fun e w' => e = .returned (.tuple #[.int .i64 (firstS l).1, .int .i64 (firstS l).2.1]) ∧ Rd w' R ao cap l.length (firstS l).2.2.1 (firstS l).2.2.2 ∧ Off R w w' := by
  have HD := Lib.hid hrd
  have HC := Lib.hid hc
  have hR := cell_ltP hrd.1
  have HN := Lib.hid (fun k f B may W (h1 : Rd W R ao cap l.length k f) h2 h3 h4 => next_any l ao cap R k f 205 (bxV B) may W h1 h2 hsz hl h3 within_enters h4)
  have HF := Lib.hid (firstS.eq_1 l)
  have hk1 : (nextS l 0 0 (withinF 1 4096 2)).2.1 ≤ l.length := nextS_pos (Nat.zero_le _)
  have hv1 : 0 ≤ (nextS l 0 0 (withinF 1 4096 2)).1 ∧ (nextS l 0 0 (withinF 1 4096 2)).1 ≤ 4096 := nextS_le (by decide) (fun n h => withinF_le (by decide) h)
  have H1 := Lib.hid (fun B W h1 h2 (h4 : Bx W B 1 4096 2) => HN.out 0 0 B (withinF 1 4096 2) W h1 h2 (by decide) (fun n W' _ _ hb => within1_any n 1 4096 2 B W' (h4.go hb)))
  generalize nextS l 0 0 (withinF 1 4096 2) = S1 at *
  have hv2 : 0 ≤ (nextS l S1.2.1 S1.2.2 (withinF 0 16384 5)).1 ∧ (nextS l S1.2.1 S1.2.2 (withinF 0 16384 5)).1 ≤ 16384 := nextS_le (by decide) (fun n h => withinF_le (by decide) h)
  have H2 := Lib.hid (fun B W h1 h2 (h4 : Bx W B 0 16384 5) => HN.out S1.2.1 S1.2.2 B (withinF 0 16384 5) W h1 h2 (by omega) (fun n W' _ _ hb => within1_any n 0 16384 5 B W' (h4.go hb)))
  generalize nextS l S1.2.1 S1.2.2 (withinF 0 16384 5) = S2 at *
  generalize firstS l = r at *
  obtain ⟨v1, k1, f1⟩ := S1
  obtain ⟨v2, k2, f2⟩ := S2
  simp only at hv1 hv2 HF H2
  clear hrd hc HN hk1
  go_enter Tryz.func152, Tryz.ntmps152
  go_wp2_with fail
  refine (within_any 1 4096 2 _).mono ?_
  rintro e w1 ⟨rfl, hx1, hb1, hz1⟩
  have HX1 := Lib.hid hx1
  have HB1 := Lib.hid hb1
  clear hx1 hb1
  go_wp2_with fail
  refine (H1.out _ _ (HD.out.go HB1.out) (HC.out.go HB1.out) HX1.out).mono ?_
  rintro e w2 ⟨rfl, hd2, ho2⟩
  have HD2 := Lib.hid hd2
  have HO2 := Lib.hid ((Off.of_below HB1.out).trans ho2)
  clear hd2 ho2
  go_wp2_with fail
  refine (within_any 0 16384 5 _).mono ?_
  rintro e w3 ⟨rfl, hx3, hb3, hz3⟩
  have HX3 := Lib.hid hx3
  have HB3 := Lib.hid hb3
  clear hx3 hb3
  go_wp2_with fail
  refine (H2.out _ _ (HD2.out.go HB3.out) ((HC.out.offL HO2.out hne).go HB3.out) HX3.out).mono ?_
  rintro e w4 ⟨rfl, hd4, ho4⟩
  have HD4 := Lib.hid hd4
  have HO4 := Lib.hid ((HO2.out.st HB3.out).trans ho4)
  clear hd4 ho4
  go_wp2
  go_ret2
  exact ⟨by rw [HF.out]; first | rfl | (simp only [IntWalk.i64_in _ (show _ by omega)]; rfl), by rw [HF.out]; exact HD4.out, HO4.out⟩

end Go.Proofs.YtelcmkccfjdmjaaGreatDoor

namespace Go.Proofs.YtelcmkccfjdmjaaGreatDoor
open Go.Proofs Go.RowKit Go.Shelf

/-- three cells that may be written -/
def E3 (W : World) (b : Nat) (x y z : Value) : Prop := W.cell? ⟨b, 0, none⟩ = some x ∧ W.cell? ⟨b, 1, none⟩ = some y ∧ W.cell? ⟨b, 2, none⟩ = some z ∧ W.frozen? ⟨b, 0, none⟩ = false ∧ W.frozen? ⟨b, 1, none⟩ = false ∧ W.frozen? ⟨b, 2, none⟩ = false
theorem E3.new (w : World) (T : TypeId) (x y z : Value) : E3 (w.alloc (.cells #[x, y, z] T)) w.heap.size x y z := ⟨by go_simp, by go_simp, by go_simp, by go_simp, by go_simp, by go_simp⟩
theorem E3.off {W W' : World} {b R : Nat} {x y z : Value} (h : E3 W b x y z) (hb : Off R W W') (hn : b ≠ R) : E3 W' b x y z :=
  ⟨hb.cell h.1 hn, hb.cell h.2.1 hn, hb.cell h.2.2.1 hn, (hb.frozen (cell_ltP h.1) hn).trans h.2.2.2.1, (hb.frozen (cell_ltP h.2.1) hn).trans h.2.2.2.2.1, (hb.frozen (cell_ltP h.2.2.1) hn).trans h.2.2.2.2.2⟩
theorem E3.go {W W' : World} {b : Nat} {x y z : Value} (h : E3 W b x y z) (hb : Below W.heap.size W W') : E3 W' b x y z :=
  ⟨cell_later hb h.1, cell_later hb h.2.1, cell_later hb h.2.2.1, (hb.frozen (cell_ltP h.1)).trans h.2.2.2.1, (hb.frozen (cell_ltP h.2.1)).trans h.2.2.2.2.1, (hb.frozen (cell_ltP h.2.2.1)).trans h.2.2.2.2.2⟩
theorem E3.set0 {W : World} {b : Nat} {x y z : Value} (h : E3 W b x y z) (u : Value) : E3 (W.setCell ⟨b, 0, none⟩ u) b u y z := by
  obtain ⟨h0, h1, h2, f0, f1, f2⟩ := h
  refine ⟨World.cell?_setCell_same _ _ _ h0, ?_, ?_, ?_, ?_, ?_⟩
  · rw [World.cell?_setCell_other _ _ _ _ (by simp)]; exact h1
  · rw [World.cell?_setCell_other _ _ _ _ (by simp)]; exact h2
  all_goals (rw [World.frozen?_setCell]; assumption)
theorem E3.set1 {W : World} {b : Nat} {x y z : Value} (h : E3 W b x y z) (u : Value) : E3 (W.setCell ⟨b, 1, none⟩ u) b x u z := by
  obtain ⟨h0, h1, h2, f0, f1, f2⟩ := h
  refine ⟨?_, World.cell?_setCell_same _ _ _ h1, ?_, ?_, ?_, ?_⟩
  · rw [World.cell?_setCell_other _ _ _ _ (by simp)]; exact h0
  · rw [World.cell?_setCell_other _ _ _ _ (by simp)]; exact h2
  all_goals (rw [World.frozen?_setCell]; assumption)
theorem E3.set2 {W : World} {b : Nat} {x y z : Value} (h : E3 W b x y z) (u : Value) : E3 (W.setCell ⟨b, 2, none⟩ u) b x y u := by
  obtain ⟨h0, h1, h2, f0, f1, f2⟩ := h
  refine ⟨?_, ?_, World.cell?_setCell_same _ _ _ h2, ?_, ?_, ?_⟩
  · rw [World.cell?_setCell_other _ _ _ _ (by simp)]; exact h0
  · rw [World.cell?_setCell_other _ _ _ _ (by simp)]; exact h1
  all_goals (rw [World.frozen?_setCell]; assumption)

theorem edge1_any (n fr a b f : Int) (Eb Fb B : Nat) (w : World) (hE : w.cell? ⟨Eb, 0, none⟩ = some (.int .i64 fr)) (hF : w.cell? ⟨Fb, 0, none⟩ = some (.func (.func 205) #[] (bxV B))) (h : Bx w B a b f) (h0 : 0 ≤ fr) (h1 : fr ≤ 9223372036854775807) :
    Calls Tryz.prog 188 (#[.int .u64 n] ++ #[.pointer (some ⟨Eb, 0, none⟩), .pointer (some ⟨Fb, 0, none⟩)]) w fun e w' => e = .returned (.int .i64 (if n = fr then 7 else withinF a b f n)) ∧ w' = w := by
  have HX := Lib.hid (within1_any n a b f B w h)
  have hw : IntKind.u64.wrap fr = fr := IntWalk.u64_in _ (by omega)
  generalize withinF a b f n = r at *
  by_cases c : n = fr
  · have hc : (n == fr) = true := by simpa using c
    rw [if_pos c]
    clear c
    go_enter Tryz.func188, Tryz.ntmps188
    go_wp2
    go_ret
    exact ⟨rfl, rfl⟩
  · have hc : (n == fr) = false := by simpa using c
    rw [if_neg c]
    clear c
    go_enter Tryz.func188, Tryz.ntmps188
    go_wp2_with (go_at_call 205; refine HX.out.mono ?_; rintro e w1 ⟨rfl, rfl⟩)
    go_ret
    exact ⟨rfl, rfl⟩

theorem edge1_enters : Enters Tryz.prog 188 := enters_of Tryz.func188 (by kernel_rfl) rfl

set_option maxHeartbeats 4000000 in
theorem edge_any (l : List ByteArray) (ao : Option Addr) (cap R k : Nat) (f n : Int) (w : World) (hrd : Rd w R ao cap l.length k f) (hc : Cel w ao (l.map encS)) (hne : l ≠ [] → ∀ x, ao = some x → x.block ≠ R)
    (hsz : ∀ x ∈ l, x.size ≤ 140737488355328) (hl : l.length ≤ 140737488355328) (hk : k ≤ l.length) (hn : 1 ≤ n ∧ n ≤ 4096) :
    Calls Tryz.prog 153 #[.pointer (some ⟨R, 0, none⟩), .int .i64 n] w fun e w' => e = .returned (encE (edgeS l n k f).1) ∧ Rd w' R ao cap l.length (edgeS l n k f).2.1 (edgeS l n k f).2.2 ∧ Off R w w' := by
  have HD := Lib.hid hrd
  have HC := Lib.hid hc
  have hR : R < w.heap.size := cell_ltP hrd.1
  have HN := Lib.hid (fun k f B may W (h1 : Rd W R ao cap l.length k f) h2 h3 h4 => next_any l ao cap R k f 205 (bxV B) may W h1 h2 hsz hl h3 within_enters h4)
  have HM := Lib.hid (fun k f cb may W (h1 : Rd W R ao cap l.length k f) h2 h3 h4 => next_any l ao cap R k f 188 cb may W h1 h2 hsz hl h3 edge1_enters h4)
  have HF := Lib.hid (edgeS.eq_1 l n k f)
  have hk1 : (nextS l k f (withinF 0 (n - 1) 7)).2.1 ≤ l.length := nextS_pos hk
  have hv1 : 0 ≤ (nextS l k f (withinF 0 (n - 1) 7)).1 ∧ (nextS l k f (withinF 0 (n - 1) 7)).1 ≤ n - 1 := nextS_le (by omega) (fun n h => withinF_le (by decide) h)
  have H1 := Lib.hid (fun B W h1 h2 (h4 : Bx W B 0 (n - 1) 7) => HN.out k f B (withinF 0 (n - 1) 7) W h1 h2 (by omega) (fun x W' _ _ hb => within1_any x 0 (n - 1) 7 B W' (h4.go hb)))
  generalize nextS l k f (withinF 0 (n - 1) 7) = S1 at *
  have hk2 : (nextS l S1.2.1 S1.2.2 (fun x => if x = S1.1 then 7 else withinF 0 (n - 1) 7 x)).2.1 ≤ l.length := nextS_pos hk1
  have hv2 : 0 ≤ (nextS l S1.2.1 S1.2.2 (fun x => if x = S1.1 then 7 else withinF 0 (n - 1) 7 x)).1 ∧ (nextS l S1.2.1 S1.2.2 (fun x => if x = S1.1 then 7 else withinF 0 (n - 1) 7 x)).1 ≤ n - 1 := nextS_le (by omega) (fun x h => by
    split at h
    · cases h
    · exact withinF_le (by decide) h)
  have H2 := Lib.hid (fun Eb Fb B W h1 h2 (h4 : Bx W B 0 (n - 1) 7) (h5 : W.cell? ⟨Eb, 0, none⟩ = some (.int .i64 S1.1)) (h6 : W.cell? ⟨Fb, 0, none⟩ = some (.func (.func 205) #[] (bxV B))) =>
    HM.out S1.2.1 S1.2.2 #[.pointer (some ⟨Eb, 0, none⟩), .pointer (some ⟨Fb, 0, none⟩)] (fun x => if x = S1.1 then 7 else withinF 0 (n - 1) 7 x) W h1 h2 (by omega)
      (fun x W' _ _ hb => edge1_any x S1.1 0 (n - 1) 7 Eb Fb B W' (cell_later hb h5) (cell_later hb h6) (h4.go hb) hv1.1 (by omega)))
  generalize nextS l S1.2.1 S1.2.2 (fun x => if x = S1.1 then 7 else withinF 0 (n - 1) 7 x) = S2 at *
  have hv3 : 0 ≤ (nextS l S2.2.1 S2.2.2 (withinF 1 4294967296 2)).1 ∧ (nextS l S2.2.1 S2.2.2 (withinF 1 4294967296 2)).1 ≤ 4294967296 := nextS_le (by decide) (fun n h => withinF_le (by decide) h)
  have H3 := Lib.hid (fun B W h1 h2 (h4 : Bx W B 1 4294967296 2) => HN.out S2.2.1 S2.2.2 B (withinF 1 4294967296 2) W h1 h2 (by omega) (fun x W' _ _ hb => within1_any x 1 4294967296 2 B W' (h4.go hb)))
  generalize nextS l S2.2.1 S2.2.2 (withinF 1 4294967296 2) = S3 at *
  generalize edgeS l n k f = r at *
  obtain ⟨v1, k1, f1⟩ := S1
  obtain ⟨v2, k2, f2⟩ := S2
  obtain ⟨v3, k3, f3⟩ := S3
  simp only at hv1 hv2 hv3 HF H2 H3
  clear hrd hc HN HM hk1 hk2
  have hnw : IntKind.u64.wrap (n - 1) = n - 1 := IntWalk.u64_in _ (by omega)
  have hw1 : IntKind.i64.wrap v1 = v1 := IntWalk.i64_in _ (by omega)
  have hw2 : IntKind.i64.wrap v2 = v2 := IntWalk.i64_in _ (by omega)
  go_enter Tryz.func153, Tryz.ntmps153
  go_wp2_with fail
  obtain ⟨W, hW⟩ : ∃ W, W = w.alloc (Obj.cells #[.int .i64 0, .int .i64 0, .int .u64 0] 149) := ⟨_, rfl⟩
  have HE0 := Lib.hid (show E3 W w.heap.size (.int .i64 0) (.int .i64 0) (.int .u64 0) by rw [hW]; exact E3.new _ _ _ _ _)
  have HO0 := Lib.hid (show Off R w W by rw [hW]; exact (Off.refl R w).al _)
  rw [← hW]
  have HZ0 := Lib.hid (show w.heap.size < W.heap.size by rw [hW]; simp)
  have HD0 := Lib.hid (show Rd W R ao cap l.length k f by rw [hW]; exact HD.out.go (Below.of_al _ _))
  clear hW
  refine (within_any 0 (n - 1) 7 _).mono ?_
  rintro e w1 ⟨rfl, hx1, hb1, hz1⟩
  have HX1 := Lib.hid hx1
  have HB1 := Lib.hid hb1
  have HZ1 := Lib.hid (show W.heap.size + 3 = w1.heap.size from hz1.symm)
  clear hx1 hb1 hz1
  go_wp2_with fail
  obtain ⟨W2, hW2⟩ : ∃ W2, W2 = w1.alloc (Obj.cells #[Value.func (Fn.func 205) #[] (bxV W.heap.size)] 219) := ⟨_, rfl⟩
  have HF2 := Lib.hid (show W2.cell? ⟨w1.heap.size, 0, none⟩ = some (.func (.func 205) #[] (bxV W.heap.size)) by rw [hW2]; go_simp)
  have HB2 := Lib.hid (show Below W.heap.size W W2 by rw [hW2]; exact HB1.out.al _)
  have HX2 := Lib.hid (show Bx W2 W.heap.size 0 (n - 1) 7 by rw [hW2]; exact HX1.out.go (Below.of_al _ _))
  rw [← hW2]
  clear hW2 HX1 HB1
  have HE2 := Lib.hid (HE0.out.go HB2.out)
  have HO2 := Lib.hid (HO0.out.st HB2.out)
  refine (H1.out _ W2 (HD0.out.go HB2.out) ((HC.out.offL HO0.out hne).go HB2.out) HX2.out).mono ?_
  rintro e w3 ⟨rfl, hd3, ho3⟩
  have HB1 := Lib.hid (show w.heap.size < W.heap.size ∧ R < w.heap.size ∧ R < w1.heap.size ∧ w.heap.size < w1.heap.size by have := HZ0.out; have := HZ1.out; omega)
  have HE3 := Lib.hid (HE2.out.off ho3 (by omega))
  have HX3 := Lib.hid (HX2.out.off ho3 (by have := HB1.out; omega))
  have HF3 := Lib.hid (ho3.cell HF2.out (by show w1.heap.size ≠ R; have := HB1.out; omega))
  have HO3 := Lib.hid (HO2.out.trans ho3)
  have HD3 := Lib.hid hd3
  clear hd3 ho3 HE0 HE2 HX2 HF2 HO2 HB2 HO0 HD0
  obtain ⟨a0, a1, a2, y0, y1, y2⟩ := HE3.out
  go_wp2_with fail
  clear a0 a1 a2 y0 y1 y2
  have hq4 := Off.set w.heap.size 0 w3 (.int .i64 v1)
  have HE4 := Lib.hid (HE3.out.set0 (.int .i64 v1))
  have HO4 := Lib.hid (HO3.out.setNew (p := ⟨w.heap.size, 0, none⟩) (Nat.le_refl _) (.int .i64 v1))
  have HD4 := Lib.hid (HD3.out.off hq4 (by omega))
  have HX4 := Lib.hid (HX3.out.off hq4 HB1.out.1)
  have HF4 := Lib.hid (hq4.cell HF3.out (by show w1.heap.size ≠ w.heap.size; have := HB1.out; omega))
  clear hq4 HE3 HO3 HD3 HX3 HF3
  generalize w3.setCell ⟨w.heap.size, 0, none⟩ (.int .i64 v1) = w4 at *
  refine (H2.out w.heap.size w1.heap.size W.heap.size w4 HD4.out (HC.out.offL HO4.out hne) HX4.out HE4.out.1 HF4.out).mono ?_
  rintro e w5 ⟨rfl, hd5, ho5⟩
  have HE5 := Lib.hid (HE4.out.off ho5 (by omega))
  have HO5 := Lib.hid (HO4.out.trans ho5)
  have HD5 := Lib.hid hd5
  clear hd5 ho5 HE4 HO4 HD4 HX4 HF4
  obtain ⟨a0, a1, a2, y0, y1, y2⟩ := HE5.out
  go_wp2_with fail
  clear a0 a1 a2 y0 y1 y2
  have hq6 := Off.set w.heap.size 1 w5 (.int .i64 v2)
  have HE6 := Lib.hid (HE5.out.set1 (.int .i64 v2))
  have HO6 := Lib.hid (HO5.out.setNew (p := ⟨w.heap.size, 1, none⟩) (Nat.le_refl _) (.int .i64 v2))
  have HD6 := Lib.hid (HD5.out.off hq6 (by omega))
  clear hq6 HE5 HO5 HD5
  generalize w5.setCell ⟨w.heap.size, 1, none⟩ (.int .i64 v2) = w6 at *
  refine (within_any 1 4294967296 2 w6).mono ?_
  rintro e w7 ⟨rfl, hx7, hb7, hz7⟩
  have HX7 := Lib.hid hx7
  have HE7 := Lib.hid (HE6.out.go hb7)
  have HO7 := Lib.hid (HO6.out.st hb7)
  have HD7 := Lib.hid (HD6.out.go hb7)
  clear hx7 hb7 hz7 HE6 HO6 HD6
  go_wp2_with fail
  refine (H3.out _ w7 HD7.out (HC.out.offL HO7.out hne) HX7.out).mono ?_
  rintro e w8 ⟨rfl, hd8, ho8⟩
  have HE8 := Lib.hid (HE7.out.off ho8 (by omega))
  have HO8 := Lib.hid (HO7.out.trans ho8)
  have HD8 := Lib.hid hd8
  clear hd8 ho8 HE7 HO7 HD7 HX7
  obtain ⟨a0, a1, a2, y0, y1, y2⟩ := HE8.out
  go_wp2
  have r0 := (((HE8.out.set2 (.int .u64 v3)).set0 (.int .i64 v1)).set1 (.int .i64 v2)).set2 (.int .u64 v3)
  obtain ⟨r0, r1, r2, -, -, -⟩ := r0
  refine bodyPost_ret (by simp [results, Tryz.results153, go_sem, r0, r1, r2]; try rfl) rfl ?_
  refine ⟨by rw [HF.out], ?_, ?_⟩
  · rw [HF.out]
    have d := HD8.out
    have q0 := Off.set w.heap.size 2 w8 (.int .u64 v3)
    exact (((d.off q0 (by omega)).off (Off.set _ _ _ _) (by omega)).off (Off.set _ _ _ _) (by omega)).off (Off.set _ _ _ _) (by omega)
  · exact (((HO8.out.setNew (Nat.le_refl _) _).setNew (Nat.le_refl _) _).setNew (Nat.le_refl _) _).setNew (Nat.le_refl _) _

end Go.Proofs.YtelcmkccfjdmjaaGreatDoor
