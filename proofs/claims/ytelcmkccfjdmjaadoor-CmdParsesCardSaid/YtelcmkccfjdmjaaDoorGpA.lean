/-
  Walks of package gtext: the reader of words, a number at a time.
-/
import Derived.Test.YtelcmkccfjdmjaaDoorProg
import Derived.Test.YtelcmkccfjdmjaaDoorNumParse
import Derived.Test.YtelcmkccfjdmjaaDoorGpSpec
namespace Go.Proofs.YtelcmkccfjdmjaaDoor
open Go.Proofs Go.RowKit Go.Shelf

/-- but for block R the world is as it was -/
structure Off (R : Nat) (w w' : World) : Prop where
  os : w'.os = w.os
  tape : w'.tape = w.tape
  output : w'.output = w.output
  size : w.heap.size ≤ w'.heap.size
  block : ∀ k, k < w.heap.size → k ≠ R → w'.heap[k]? = w.heap[k]?
theorem Off.refl (R : Nat) (w : World) : Off R w w := ⟨rfl, rfl, rfl, Nat.le_refl _, fun _ _ _ => rfl⟩
theorem Off.trans {R : Nat} {a b c : World} (h : Off R a b) (k : Off R b c) : Off R a c :=
  ⟨k.os.trans h.os, k.tape.trans h.tape, k.output.trans h.output, Nat.le_trans h.size k.size, fun i hi hn => (k.block i (by have := h.size; omega) hn).trans (h.block i hi hn)⟩
theorem Off.of_below {R : Nat} {w w' : World} (h : Below w.heap.size w w') : Off R w w' := ⟨h.os, h.tape, h.output, h.size, fun k hk _ => h.block k hk⟩
theorem Off.set (R j : Nat) (w : World) (v : Value) : Off R w (w.setCell ⟨R, j, none⟩ v) :=
  ⟨rfl, rfl, rfl, by simp [World.setCell], fun k _ hn => Below.heap_setCell _ _ _ _ hn⟩
theorem Off.st {R : Nat} {a b c : World} (h : Off R a b) (k : Below b.heap.size b c) : Off R a c := h.trans (Off.of_below k)
theorem Off.al {R : Nat} {a b : World} (h : Off R a b) (o : Obj) : Off R a (b.alloc o) := h.st (Below.of_al b o)
theorem Off.below {R B : Nat} {w w' : World} (h : Off R w w') (h1 : B ≤ R) (h2 : B ≤ w.heap.size) : Below B w w' := ⟨h.os, h.tape, h.output, h.size, fun k hk => h.block k (by omega) (by omega)⟩
theorem Off.cell {R : Nat} {w w' : World} {a : Addr} {v : Value} (h : Off R w w') (hc : w.cell? a = some v) (hn : a.block ≠ R) : w'.cell? a = some v :=
  (World.cell?_of_block (w := w) (h.block a.block (World.block_lt_of_cell? _ _ hc) hn)).trans hc
theorem Off.frozen {R : Nat} {w w' : World} {a : Addr} (h : Off R w w') (hl : a.block < w.heap.size) (hn : a.block ≠ R) : w'.frozen? a = w.frozen? a :=
  World.frozen?_of_block (w := w) (h.block a.block hl hn)

/-- the reader: its words, how far it is, and its fault -/
def Rd (w : World) (R : Nat) (ao : Option Addr) (cap n k : Nat) (f : Int) : Prop :=
  w.cell? ⟨R, 0, none⟩ = some (.slice ao n cap) ∧ w.cell? ⟨R, 1, none⟩ = some (.int .i64 k) ∧ w.cell? ⟨R, 2, none⟩ = some (.int .i64 f) ∧ w.frozen? ⟨R, 1, none⟩ = false ∧ w.frozen? ⟨R, 2, none⟩ = false
theorem cell_ltP {w : World} {a : Addr} {v : Value} (h : w.cell? a = some v) : a.block < w.heap.size := World.block_lt_of_cell? _ _ h
theorem Rd.go {w w' : World} {R : Nat} {ao : Option Addr} {cap n k : Nat} {f : Int} (h : Rd w R ao cap n k f) (hb : Below w.heap.size w w') : Rd w' R ao cap n k f :=
  ⟨cell_later hb h.1, cell_later hb h.2.1, cell_later hb h.2.2.1, (hb.frozen (cell_ltP h.2.1)).trans h.2.2.2.1, (hb.frozen (cell_ltP h.2.2.1)).trans h.2.2.2.2⟩
theorem Rd.off {w w' : World} {R Q : Nat} {ao : Option Addr} {cap n k : Nat} {f : Int} (h : Rd w R ao cap n k f) (hb : Off Q w w') (hn : R ≠ Q) : Rd w' R ao cap n k f :=
  ⟨hb.cell h.1 hn, hb.cell h.2.1 hn, hb.cell h.2.2.1 hn, (hb.frozen (cell_ltP h.2.1) hn).trans h.2.2.2.1, (hb.frozen (cell_ltP h.2.2.1) hn).trans h.2.2.2.2⟩
theorem Rd.fault {w : World} {R : Nat} {ao : Option Addr} {cap n k : Nat} {f : Int} (h : Rd w R ao cap n k f) (f' : Int) : Rd (w.setCell ⟨R, 2, none⟩ (.int .i64 f')) R ao cap n k f' := by
  obtain ⟨h0, h1, h2, h3, h4⟩ := h
  refine ⟨?_, ?_, World.cell?_setCell_same _ _ _ h2, ?_, ?_⟩
  · rw [World.cell?_setCell_other _ _ _ _ (by simp)]; exact h0
  · rw [World.cell?_setCell_other _ _ _ _ (by simp)]; exact h1
  · rw [World.frozen?_setCell]; exact h3
  · rw [World.frozen?_setCell]; exact h4
theorem Rd.on {w : World} {R : Nat} {ao : Option Addr} {cap n k : Nat} {f : Int} (h : Rd w R ao cap n k f) : Rd (w.setCell ⟨R, 1, none⟩ (.int .i64 ((k + 1 : Nat) : Int))) R ao cap n (k + 1) f := by
  obtain ⟨h0, h1, h2, h3, h4⟩ := h
  refine ⟨?_, World.cell?_setCell_same _ _ _ h1, ?_, ?_, ?_⟩
  · rw [World.cell?_setCell_other _ _ _ _ (by simp)]; exact h0
  · rw [World.cell?_setCell_other _ _ _ _ (by simp)]; exact h2
  · rw [World.frozen?_setCell]; exact h3
  · rw [World.frozen?_setCell]; exact h4

/-- what next leaves -/
def NextPost (w : World) (R : Nat) (ao : Option Addr) (cap n : Nat) (r : Int × Nat × Int) (e : Ending) (w' : World) : Prop :=
  e = .returned (.int .u64 r.1) ∧ Rd w' R ao cap n r.2.1 r.2.2 ∧ Off R w w'

set_option maxHeartbeats 4000000 in
theorem next_any (l : List ByteArray) (ao : Option Addr) (cap R k : Nat) (f : Int) (g : Nat) (cb : Array Value) (may : Int → Int) (w : World) (hrd : Rd w R ao cap l.length k f) (hc : Cel w ao (l.map encS))
    (hsz : ∀ x ∈ l, x.size ≤ 140737488355328) (hl : l.length ≤ 140737488355328) (hk : k ≤ 140737488355328) (hen : Enters Tryd.prog g)
    (hm : ∀ (n : Int) W, 0 ≤ n → n < 18446744073709551616 → Below w.heap.size w W → Calls Tryd.prog g (#[.int .u64 n] ++ cb) W fun e w' => e = .returned (.int .i64 (may n)) ∧ w' = W) :
    Calls Tryd.prog 110 #[.pointer (some ⟨R, 0, none⟩), .func (.func g) #[] cb] w (NextPost w R ao cap l.length (nextS l k f may)) := by
  have HM := Lib.hid hm
  have HC := Lib.hid hc
  have HD := Lib.hid hrd
  obtain ⟨c0, c1, c2, z1, z2⟩ := hrd
  unfold Enters at hen
  clear hm hc
  by_cases hf : f = 0
  · subst hf
    by_cases h1 : l.length ≤ k
    · have HN := Lib.hid (show nextS l k 0 may = (0, k, 3) by unfold nextS; rw [if_neg (by simp), if_pos h1])
      generalize nextS l k 0 may = r at *
      go_enter Tryd.func110, Tryd.ntmps110
      go_wp2
      go_quiet (fail)
      have HB1 := Lib.hid (below_drewN (Below.refl _ w) nq : Below w.heap.size w (w.drewN nq))
      generalize w.drewN nq = W at HB1 ⊢
      have HD1 := Lib.hid (HD.out.go HB1.out)
      obtain ⟨d0, d1, d2, y1, y2⟩ := HD1.out
      go_wp2
      go_ret
      exact ⟨by rw [HN.out]; rfl, by rw [HN.out]; exact HD1.out.fault 3, (Off.of_below HB1.out).trans (Off.set _ _ _ _)⟩
    · have hlt : k < l.length := by omega
      have hg : l.getD k ByteArray.empty = l[k] := by rw [List.getD_eq_getElem?_getD, List.getElem?_eq_getElem hlt]; rfl
      have HV := Lib.hid (show valK l k = (parseI l[k]).1 by unfold valK; rw [hg])
      have HN := Lib.hid (show nextS l k 0 may = if (parseI l[k]).2 ≠ 0 then (0, k, 3) else if may (parseI l[k]).1 ≠ 0 then (0, k, may (parseI l[k]).1) else ((parseI l[k]).1, k + 1, 0) by
        unfold nextS; rw [if_neg (by simp), if_neg h1, hg, HV.out])
      have hx := hsz l[k] (List.getElem_mem hlt)
      obtain ⟨b, o, hao, hx1⟩ := HC.out.at hlt
      have hp := parseI_le l[k]
      have HP := Lib.hid (fun W => Parse_any l[k] W hx)
      clear HV hg
      generalize nextS l k 0 may = r at *
      generalize l[k] = x at *
      generalize parseI x = q at *
      obtain ⟨n, pf⟩ := q
      simp only at HN hp
      subst hao
      have hlt2 : (k : Int) < (l.length : Int) := by omega
      have hk0 : (0 : Int) ≤ (k : Int) := by omega
      by_cases h2 : pf = 0
      · subst h2
        have HM2 := Lib.hid (fun W => HM.out n W hp.1 hp.2)
        rw [if_neg (by simp)] at HN
        generalize may n = m at *
        by_cases h3 : m = 0
        · subst h3
          rw [if_neg (by simp)] at HN
          have hkw : IntKind.i64.wrap ((k : Int) + 1) = ((k + 1 : Nat) : Int) := by rw [IntWalk.i64_in _ (by omega)]; omega
          go_enter Tryd.func110, Tryd.ntmps110
          go_wp2
          go_quiet (fail)
          have HB1 := Lib.hid (below_drewN (Below.refl _ w) nq : Below w.heap.size w (w.drewN nq))
          generalize w.drewN nq = W at HB1 ⊢
          have HD1 := Lib.hid (HD.out.go HB1.out)
          obtain ⟨d0, d1, d2, y1, y2⟩ := HD1.out
          clear c0 c1 c2 z1 z2
          go_wp2_with fail
          have hx2 := cell_later HB1.out hx1
          have D0 := fun p => cell_ext p d0
          have D1 := fun p => cell_ext p d1
          have D2 := fun p => cell_ext p hx2
          refine wp_region_ext (by kernel_rfl) (by kernel_rfl) ?_
          repeat (go_big_quiet_step ((go_at_call 37; exact Calls.ext_of (HP.out _))))
          refine wpQuiet_nil ?_
          rintro _ ⟨p2x, rfl⟩
          have HB2x := Lib.hid (below_ext W p2x)
          generalize ext W p2x = w2x at HB2x ⊢
          clear D0 D1 D2 d0 d1 d2 y1 y2 hx2 hx1
          have HB2 := Lib.hid (HB1.out.st HB2x.out)
          have HD2 := Lib.hid (HD1.out.go HB2x.out)
          obtain ⟨d0, d1, d2, y1, y2⟩ := HD2.out
          go_wp2_with (go_at_fn g; refine (HM2.out _ HB2.out).mono ?_; rintro e w3 ⟨rfl, rfl⟩)
          go_ret
          exact ⟨by rw [HN.out]; rfl, by rw [HN.out]; first | exact (HD2.out.fault 0).on | (rw [← hkw]; exact (HD2.out.fault 0).on), ((Off.of_below HB2.out).trans (Off.set _ _ _ _)).trans (Off.set _ _ _ _)⟩
        · rw [if_pos h3] at HN
          have h3' : (m != 0) = true := by simpa using h3
          go_enter Tryd.func110, Tryd.ntmps110
          go_wp2
          go_quiet (fail)
          have HB1 := Lib.hid (below_drewN (Below.refl _ w) nq : Below w.heap.size w (w.drewN nq))
          generalize w.drewN nq = W at HB1 ⊢
          have HD1 := Lib.hid (HD.out.go HB1.out)
          obtain ⟨d0, d1, d2, y1, y2⟩ := HD1.out
          clear c0 c1 c2 z1 z2
          go_wp2_with fail
          have hx2 := cell_later HB1.out hx1
          have D0 := fun p => cell_ext p d0
          have D1 := fun p => cell_ext p d1
          have D2 := fun p => cell_ext p hx2
          refine wp_region_ext (by kernel_rfl) (by kernel_rfl) ?_
          repeat (go_big_quiet_step ((go_at_call 37; exact Calls.ext_of (HP.out _))))
          refine wpQuiet_nil ?_
          rintro _ ⟨p2x, rfl⟩
          have HB2x := Lib.hid (below_ext W p2x)
          generalize ext W p2x = w2x at HB2x ⊢
          clear D0 D1 D2 d0 d1 d2 y1 y2 hx2 hx1
          have HB2 := Lib.hid (HB1.out.st HB2x.out)
          have HD2 := Lib.hid (HD1.out.go HB2x.out)
          obtain ⟨d0, d1, d2, y1, y2⟩ := HD2.out
          go_wp2_with (go_at_fn g; refine (HM2.out _ HB2.out).mono ?_; rintro e w3 ⟨rfl, rfl⟩)
          go_ret
          exact ⟨by rw [HN.out]; rfl, by rw [HN.out]; exact HD2.out.fault m, (Off.of_below HB2.out).trans (Off.set _ _ _ _)⟩
      · rw [if_pos h2] at HN
        have h2' : (pf != 0) = true := by simpa using h2
        clear HM
        go_enter Tryd.func110, Tryd.ntmps110
        go_wp2
        go_quiet (fail)
        have HB1 := Lib.hid (below_drewN (Below.refl _ w) nq : Below w.heap.size w (w.drewN nq))
        generalize w.drewN nq = W at HB1 ⊢
        have HD1 := Lib.hid (HD.out.go HB1.out)
        obtain ⟨d0, d1, d2, y1, y2⟩ := HD1.out
        clear c0 c1 c2 z1 z2
        go_wp2_with fail
        have hx2 := cell_later HB1.out hx1
        have D0 := fun p => cell_ext p d0
        have D1 := fun p => cell_ext p d1
        have D2 := fun p => cell_ext p hx2
        refine wp_region_ext (by kernel_rfl) (by kernel_rfl) ?_
        repeat (go_big_quiet_step ((go_at_call 37; exact Calls.ext_of (HP.out _))))
        refine wpQuiet_nil ?_
        rintro _ ⟨p2x, rfl⟩
        have HB2x := Lib.hid (below_ext W p2x)
        generalize ext W p2x = w2x at HB2x ⊢
        clear D0 D1 D2 d0 d1 d2 y1 y2 hx2 hx1
        have HB2 := Lib.hid (HB1.out.st HB2x.out)
        have HD2 := Lib.hid (HD1.out.go HB2x.out)
        obtain ⟨d0, d1, d2, y1, y2⟩ := HD2.out
        go_wp2
        go_ret
        exact ⟨by rw [HN.out]; rfl, by rw [HN.out]; exact HD2.out.fault 3, (Off.of_below HB2.out).trans (Off.set _ _ _ _)⟩
  · have HN := Lib.hid (show nextS l k f may = (0, k, f) from nextS_stop hf)
    have hf' : (f != 0) = true := by simpa using hf
    generalize nextS l k f may = r at *
    go_enter Tryd.func110, Tryd.ntmps110
    go_wp2
    go_ret
    exact ⟨by rw [HN.out]; rfl, by rw [HN.out]; exact HD.out, Off.refl _ _⟩

end Go.Proofs.YtelcmkccfjdmjaaDoor
