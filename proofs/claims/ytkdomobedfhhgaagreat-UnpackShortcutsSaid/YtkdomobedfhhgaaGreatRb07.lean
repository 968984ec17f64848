/-
  Walk of the law QueryThirds.
  Walk of package query where nothing was built: Dist, Peaks, Meet of none.
  The peaks at which both ends meet, told in two ways, in plain Lean.
  Walk over the reference of query: Peaks.
  Walk of package hier: Hierarchy.
  Walks: are two rows the same (numbers, wide numbers, texts).
  Walk of the law QueryDists.
  Walk of the law QueryOracles.
  The library's contracts that the proof uses, laid at this program by the kit's own command; no condition.
  Walk of the library's slices.Repeat at one weight.
  Walks: one row behind another (slices.Grow, slices.Concat of two).
  Walks: two rows, one behind the other, by the reference; a route behind another.
-/
import Derived.Test.YtkdomobedfhhgaaGreatProg
import Derived.Test.YtkdomobedfhhgaaGreatQb36
import Derived.Test.YtkdomobedfhhgaaGreatRb02
import Derived.Test.YtkdomobedfhhgaaGreatRb06
import Derived.Test.YtkdomobedfhhgaaGreatQb26
import Derived.Test.YtkdomobedfhhgaaGreatQb01
import Derived.Shelf.Small.Bits
import Derived.Shelf.Small.Wraps
import Derived.Shelf.Strconv.Itoa0
import Derived.Shelf.Bits.Mul64
import Derived.Shelf.Slices.Reverse
import Derived.Ground.Names2Prog
import Derived.Shelf.Slices.Clone
import Derived.Shelf.Slices.SearchI
import Derived.Shelf.Slices.Cells
import Derived.Ground.SlgnProg
import Derived.Shelf.SlicesE.Clone
import Derived.Ground.SlsfProg
import Derived.Shelf.SlSortCmp.Insertion
import Derived.Test.YtkdomobedfhhgaaGreatQb31
import Derived.Laws.CopyOwn
import Derived.Deep.RegionLaw
import Derived.Test.YtkdomobedfhhgaaGreatQb22
import Derived.Lib.AppendZeros
import Derived.Laws.OwnMore
import Derived.Test.YtkdomobedfhhgaaGreatQb13
set_option linter.unusedVariables false
set_option linter.unusedSimpArgs false
set_option linter.unnecessarySimpa false
section
namespace Go.Proofs.YtkdomobedfhhgaaGreat
open Go Go.Proofs Go.RowKit Go.Shelf Go.Proofs.YtkdomobedfhhgaaGreat.Hp Go.Proofs.YtkdomobedfhhgaaGreat.Ch

def lightG (n : Int) (es : List EdgeD) : Bool := (decide (n ≤ 100) || decide (4096 < n)) && decide ((es.length : Int) ≤ 300)
set_option maxHeartbeats 1000000 in
theorem light05_any (n : Int) (es : List EdgeD) (ao : Option Addr) (cap : Nat) (w : World) :
    Calls Tryz.prog 69 #[.agg #[.int .i64 n, .slice ao es.length cap]] w fun e w' => e = .returned (.bool (lightG n es)) ∧ Below w.heap.size w w' := by
  unfold lightG
  by_cases h1 : n ≤ 100
  · rw [decide_eq_true h1, Bool.true_or, Bool.true_and]
    have g1 : decide (n ≤ 100) = true := decide_eq_true h1
    go_enter Tryz.func69, Tryz.ntmps69
    go_wp2
    go_ret
    exact ⟨rfl, Below.of_al _ _⟩
  · rw [decide_eq_false h1, Bool.false_or]
    have g1 : decide (n ≤ 100) = false := decide_eq_false h1
    by_cases h2 : 4096 < n
    · rw [decide_eq_true h2, Bool.true_and]
      have g2 : decide (n > 4096) = true := decide_eq_true h2
      go_enter Tryz.func69, Tryz.ntmps69
      go_wp2
      go_ret
      exact ⟨rfl, Below.of_al _ _⟩
    · rw [decide_eq_false h2, Bool.false_and]
      have g2 : decide (n > 4096) = false := decide_eq_false h2
      go_enter Tryz.func69, Tryz.ntmps69
      go_wp2
      go_ret
      exact ⟨rfl, Below.of_al _ _⟩

def light20 (n : Int) (es : List EdgeD) : Bool := lightG n es && (decide (n ≤ 12) || decide (4096 < n)) && decide ((es.length : Int) ≤ 40)
theorem light20_small {g : GD} (h : light20 g.n g.es = true) : (rightG g = 0 → g.n ≤ 12) ∧ g.es.length ≤ 40 := by
  unfold light20 at h
  simp only [Bool.and_eq_true, Bool.or_eq_true, decide_eq_true_eq] at h
  refine ⟨fun hr => ?_, by omega⟩
  have := right_n hr
  omega
set_option maxHeartbeats 1000000 in
theorem light20_any (n : Int) (es : List EdgeD) (ao : Option Addr) (cap : Nat) (w : World) :
    Calls Tryz.prog 14 #[.agg #[.int .i64 n, .slice ao es.length cap]] w fun e w' => e = .returned (.bool (light20 n es)) ∧ Below w.heap.size w w' := by
  have HL := Lib.hid (light05_any n es ao cap)
  unfold light20
  obtain ⟨W, hW⟩ : ∃ W, W = w.alloc (Obj.cells #[.int .i64 n, .slice ao es.length cap] 24) := ⟨_, rfl⟩
  have hbw : Below w.heap.size w W := by rw [hW]; exact Below.of_al _ _
  have c0 : W.cell? ⟨w.heap.size, 0, none⟩ = some (.int .i64 n) := by rw [hW]; go_simp
  have c1 : W.cell? ⟨w.heap.size, 1, none⟩ = some (.slice ao es.length cap) := by rw [hW]; go_simp
  have HB := Lib.hid hbw
  have HW := Lib.hid hW
  clear hbw hW
  cases hb : lightG n es with
  | false =>
    rw [hb] at HL
    clear hb
    go_enter Tryz.func14, Tryz.ntmps14
    go_upto_region 1 with (fail)
    rw [← HW.out]
    go_wp2_with (go_at_call 69; refine (HL.out _).mono ?_; rintro e w1 ⟨rfl, hb1⟩; (have HB1 := Lib.hid hb1); clear hb1)
    go_ret
    exact ⟨by simp, HB.out.st HB1.out⟩
  | true =>
    rw [hb] at HL
    clear hb
    by_cases h1 : n ≤ 12
    · go_enter Tryz.func14, Tryz.ntmps14
      go_upto_region 1 with (fail)
      rw [← HW.out]
      go_wp2_with (go_at_call 69; refine (HL.out _).mono ?_; rintro e w1 ⟨rfl, hb1⟩; (have d0 := cell_later hb1 c0); (have d1 := cell_later hb1 c1); (have HB1 := Lib.hid hb1); clear hb1)
      go_ret
      exact ⟨by simp [h1], HB.out.st HB1.out⟩
    · by_cases h2 : 4096 < n
      · go_enter Tryz.func14, Tryz.ntmps14
        go_upto_region 1 with (fail)
        rw [← HW.out]
        go_wp2_with (go_at_call 69; refine (HL.out _).mono ?_; rintro e w1 ⟨rfl, hb1⟩; (have d0 := cell_later hb1 c0); (have d1 := cell_later hb1 c1); (have HB1 := Lib.hid hb1); clear hb1)
        go_ret
        exact ⟨by simp [h1, h2], HB.out.st HB1.out⟩
      · go_enter Tryz.func14, Tryz.ntmps14
        go_upto_region 1 with (fail)
        rw [← HW.out]
        go_wp2_with (go_at_call 69; refine (HL.out _).mono ?_; rintro e w1 ⟨rfl, hb1⟩; (have d0 := cell_later hb1 c0); (have d1 := cell_later hb1 c1); (have HB1 := Lib.hid hb1); clear hb1)
        go_ret
        exact ⟨by simp [h1, h2]; intro h; omega, HB.out.st HB1.out⟩
theorem BltPost.two {g : GD} {k : Int} {w w' : World} {e : Ending} (h : BltPost g k w e w') : ∃ p, e = .returned (.tuple #[.pointer p, .int .i64 k]) ∧ Below w.heap.size w w' ∧ (k = 0 → rightG g = 0 → g.n ≤ 12 → ∃ hb R S ro, p = some ⟨hb, 0, none⟩ ∧ BH w' hb g.n.toNat g.es R S ro) := by
  have h0 := h
  obtain ⟨h1 | h1, h2⟩ := h
  · obtain ⟨rfl, hb, R, S, ro, e, hm, ho⟩ := h1
    exact ⟨_, e, h2, fun _ hg hn => by
      have := right_n hg
      exact ⟨hb, R, S, ro, rfl, ⟨hm, ho, by omega, by omega⟩⟩⟩
  · exact ⟨none, h1.2, h2, fun hk => absurd hk h1.1⟩
end Go.Proofs.YtkdomobedfhhgaaGreat
end

section
namespace Go.Proofs.YtkdomobedfhhgaaGreat
open Go Go.Proofs Go.RowKit Go.Shelf Go.Proofs.YtkdomobedfhhgaaGreat.Hp Go.Proofs.YtkdomobedfhhgaaGreat.Ch

end Go.Proofs.YtkdomobedfhhgaaGreat
end

section
namespace Go.Proofs.YtkdomobedfhhgaaGreat
open Go.Proofs.YtkdomobedfhhgaaGreat.Ch
end Go.Proofs.YtkdomobedfhhgaaGreat
end

section
namespace Go.Proofs.YtkdomobedfhhgaaGreat
open Go Go.Proofs Go.RowKit Go.Shelf Go.Proofs.YtkdomobedfhhgaaGreat.Ch

section
variable {A : Int → Int → Int → Prop} {r : Int → Int} {s t d : Int} {k : Nat} {l : List Int}
end
end Go.Proofs.YtkdomobedfhhgaaGreat
end

section
namespace Go.Proofs.YtkdomobedfhhgaaGreat
open Go Go.Proofs Go.RowKit Go.Shelf Go.Proofs.YtkdomobedfhhgaaGreat.Hp Go.Proofs.YtkdomobedfhhgaaGreat.Ch

end Go.Proofs.YtkdomobedfhhgaaGreat
end

section
namespace Go.Proofs.YtkdomobedfhhgaaGreat
open Go.Proofs Go.RowKit Go.Shelf
set_option maxHeartbeats 400000 in
theorem sameInts_any (ao bo : Option Addr) (ca cb : Nat) (la lb : List Int) (w : World) (hla : la.length ≤ 9223372036854775807) (hlb : lb.length ≤ 9223372036854775807)
    (ha : Cel w ao (la.map encI)) (hb : Cel w bo (lb.map encI)) :
    Calls Tryz.prog 23 #[.slice ao la.length ca, .slice bo lb.length cb] w fun e w' => e = .returned (.bool (decide (la = lb))) ∧ ∃ n, w' = w.drewN n := by
  have HA := Lib.hid ha
  have HB := Lib.hid hb
  clear ha hb
  by_cases hl : la.length = lb.length
  · have hn2 : ((la.length : Int) != (lb.length : Int)) = false := by simp; omega
    have HN := Lib.hid hl
    clear hl
    have HD := Lib.hid (fun k (h1 : k < la.length) (h2 : la[k] ≠ lb[k]'(by have := HN.out; omega)) => (decide_eq_false (fun e => h2 (by subst e; rfl)) : decide (la = lb) = false))
    have HE := Lib.hid (fun h : (∀ j (h : j < la.length), la[j] = lb[j]'(by have := HN.out; omega)) => (decide_eq_true (List.ext_getElem HN.out (fun i h1 h2 => h i h1)) : decide (la = lb) = true))
    generalize decide (la = lb) = r at *
    go_enter Tryz.func23, Tryz.ntmps23
    go_wp2
    go_loopg [5] la.length (fun g i wr => ∃ k q : Nat, k ≤ la.length ∧ la.length - k ≤ g ∧ i = .int .i64 k ∧ wr = w.drewN q ∧ Aside (∀ j (h : j < la.length), j < k → la[j] = lb[j]'(by have := HN.out; omega)))
    case atStart => exact ⟨0, 0, Nat.zero_le _, by omega, rfl, rfl, fun j _ h => absurd h (Nat.not_lt_zero _)⟩
    case round =>
      obtain ⟨k, q, hk, hg, rfl, rfl, HF⟩ := hrel
      by_cases hlt : k < la.length
      · have hlt2 : k < lb.length := by have := HN.out; omega
        have hlt3 : (k : Int) < (la.length : Int) := by omega
        have hlt4 : (k : Int) < (lb.length : Int) := by omega
        have hk0 : (0 : Int) ≤ (k : Int) := by omega
        obtain ⟨b1, o1, hao, hc1⟩ := HA.out.at hlt
        obtain ⟨b2, o2, hbo, hc2⟩ := HB.out.at hlt2
        subst hao hbo
        have HD2 := Lib.hid (HD.out k hlt)
        have HM := Lib.hid (fun h : la[k] = lb[k] => (fun j (h1 : j < la.length) (h2 : j < k + 1) => (by
          by_cases e : j = k
          · subst e; exact h
          · exact HF.out j h1 (by omega) : la[j] = lb[j]'(by have := HN.out; omega))))
        generalize la[k] = x at *
        generalize lb[k] = y at *
        go_wp2
        go_quiet (fail)
        go_wp2
        · have ht := ne_i (by assumption)
          go_ret
          exact ⟨by rw [HD2.out ht]; rfl, q + nq, World.drewN_drewN _ _ _⟩
        · have ht := eq_i (by assumption)
          go_roundg (la.length - (k + 1))
          case measure => omega
          case rel => exact ⟨k + 1, q + nq, by omega, by omega, by go_num, rfl, HM.out ht⟩
      · obtain rfl : k = la.length := by omega
        go_wp2
        go_ret
        exact ⟨by rw [HE.out (fun j h => HF.out j h h)]; rfl, q, rfl⟩
  · have hn2 : ((la.length : Int) != (lb.length : Int)) = true := by simp; omega
    have HN := Lib.hid (decide_eq_false (fun e => hl (by subst e; rfl)) : decide (la = lb) = false)
    clear hl
    go_enter Tryz.func23, Tryz.ntmps23
    go_wp2
    go_ret
    exact ⟨by rw [HN.out]; rfl, 0, rfl⟩
end Go.Proofs.YtkdomobedfhhgaaGreat
end

section
namespace Go.Proofs.YtkdomobedfhhgaaGreat
open Go Go.Proofs Go.RowKit Go.Shelf Go.Proofs.YtkdomobedfhhgaaGreat.Hp Go.Proofs.YtkdomobedfhhgaaGreat.Ch

theorem BltPost.nil {g : GD} {k : Int} {w w' : World} {e : Ending} (h : BltPost g k w e w') (hk : k ≠ 0) : e = .returned (.tuple #[.pointer none, .int .i64 k]) ∧ Below w.heap.size w w' := by
  obtain ⟨h1 | h1, h2⟩ := h
  · exact absurd h1.1 hk
  · exact ⟨h1.2, h2⟩
theorem build_right {g : GD} {h s : Int} {r : List Int} (k : buildB g h s r = 0) : rightG g = 0 := by
  unfold buildB at k
  split at k
  · cases k
  · rename_i hn
    exact Decidable.byContradiction fun e => hn (.inl e)
/-- the boxes of the arguments -/
structure QB1 (W : World) (b : Nat) (g : GD) (ao : Option Addr) (cap : Nat) (h1 s1 : Int) (ro : Option Addr) (r : List Int) (rc : Nat) : Prop where
  g0 : W.cell? ⟨b, 0, none⟩ = some (.int .i64 g.n)
  g1 : W.cell? ⟨b, 1, none⟩ = some (.slice ao g.es.length cap)
  a0 : W.cell? ⟨b + 1, 0, none⟩ = some (.int .i64 h1)
  a1 : W.cell? ⟨b + 1, 1, none⟩ = some (.int .i64 s1)
  a2 : W.cell? ⟨b + 1, 2, none⟩ = some (.slice ro r.length rc)
theorem QB1.go {W W' : World} {b : Nat} {g : GD} {ao : Option Addr} {cap : Nat} {h1 s1 : Int} {ro : Option Addr} {r : List Int} {rc : Nat} (h : QB1 W b g ao cap h1 s1 ro r rc) (hz : Below W.heap.size W W') : QB1 W' b g ao cap h1 s1 ro r rc :=
  ⟨cell_later hz h.g0, cell_later hz h.g1, cell_later hz h.a0, cell_later hz h.a1, cell_later hz h.a2⟩
end Go.Proofs.YtkdomobedfhhgaaGreat
end

section
namespace Go.Proofs.YtkdomobedfhhgaaGreat
open Go Go.Proofs Go.RowKit Go.Shelf Go.Proofs.YtkdomobedfhhgaaGreat.Hp Go.Proofs.YtkdomobedfhhgaaGreat.Ch

theorem OrW.same {w w' : World} {ob hb sb kb n t : Nat} {A : Int → Int → Int → Prop} {lb : List LB} {asked : List Int} (h : OrW w ob hb sb kb n t A lb asked) (hk : ∀ k, k = ob ∨ k = sb ∨ k = kb → w'.heap[k]? = w.heap[k]?) : OrW w' ob hb sb kb n t A lb asked := by
  obtain ⟨f, k1, k2, k3⟩ := h.kn
  exact ⟨(World.cell?_of_block (hk ob (.inl rfl))).trans h.c0, (World.cell?_of_block (hk ob (.inl rfl))).trans h.c1, (World.cell?_of_block (hk ob (.inl rfl))).trans h.c2, h.sp.eq (hk sb (.inr (.inl rfl))), ⟨f, k1.eq (hk kb (.inr (.inr rfl))), k2, k3⟩, h.ne⟩
theorem OrW.lt {w : World} {ob hb sb kb n t : Nat} {A : Int → Int → Int → Prop} {lb : List LB} {asked : List Int} (h : OrW w ob hb sb kb n t A lb asked) : ob < w.heap.size ∧ sb < w.heap.size ∧ kb < w.heap.size := by
  obtain ⟨f, k1, _⟩ := h.kn
  exact ⟨World.block_lt_of_cell? _ _ h.c0, h.sp.lt, k1.toW.lt⟩
section
variable {W2 wr wr' : World} {ob hb sb kb n t : Nat} {es : List EdgeD} {lb : List LB} {fb : Nat} {dd : List Int} {B : Nat} {asked asked' : List Int}
end
theorem FromPost.val {w w' : World} {ob hb sb kb n t : Nat} {A : Int → Int → Int → Prop} {lb : List LB} {asked : List Int} {s : Int} {e : Ending} (h : FromPost w ob hb sb kb n t A lb asked s e w') :
    ∃ (d : Int) (b : Bool), e = .returned (.tuple #[.int .u64 d, .bool b]) ∧ ∃ x, FarV A s t x ∧ ((x < 4611686018427387904 ∧ d = x ∧ b = true) ∨ (4611686018427387904 ≤ x ∧ d = 0 ∧ b = false)) ∧ OrW w' ob hb sb kb n t A lb (if s ∈ asked then asked else asked ++ [s]) ∧ OffX (· = kb) w w' := by
  obtain ⟨x, h1, h2, h3, h4⟩ := h
  rcases h2 with ⟨h2, rfl⟩ | ⟨h2, rfl⟩
  · exact ⟨x, true, rfl, x, h1, .inl ⟨h2, rfl, rfl⟩, h3, h4⟩
  · exact ⟨0, false, rfl, x, h1, .inr ⟨h2, rfl, rfl⟩, h3, h4⟩
end Go.Proofs.YtkdomobedfhhgaaGreat
end

section
namespace Go.Proofs
open Go.Shelf
end Go.Proofs
end

section
namespace Go.Proofs.YtkdomobedfhhgaaGreat
open Go Go.Proofs Go.RowKit Go.Shelf Go.Proofs.YtkdomobedfhhgaaGreat.Hp Go.Proofs.YtkdomobedfhhgaaGreat.Ch

end Go.Proofs.YtkdomobedfhhgaaGreat
end

section
namespace Go.Proofs.YtkdomobedfhhgaaGreat
open Go Go.Proofs Go.RowKit Go.Shelf Go.Proofs.YtkdomobedfhhgaaGreat.Hp Go.Proofs.YtkdomobedfhhgaaGreat.Ch

set_option maxHeartbeats 1000000 in
theorem Grow_any (n : Nat) (w : World) (hn : n ≤ 1099511627776) :
    Calls Tryz.prog 131 #[.slice none 0 0, .int .i64 n] w fun e w' => ∃ ao cap, e = .returned (.slice ao 0 cap) ∧ w'.ownsRow w.heap.size 3 1 (.slice ao 0 cap) 0 [] ∧ Below w.heap.size w w' := by
  by_cases h0 : n = 0
  · subst h0
    go_enter Tryz.func131, Tryz.ntmps131
    go_wp2
    go_ret
    exact ⟨none, 0, rfl, ⟨rfl, .inl ⟨rfl, rfl⟩⟩, Below.refl _ _⟩
  · have hE := elem_int
    obtain ⟨hE, hz1, hz2⟩ := hE
    obtain ⟨i, hi, hz, hsz, hby⟩ := info_parts hE
    have hrz := Lib.hid (fun ty => Lib.run_append_nil_zeros w 25 3 ty 3 i _ .i64 .i64 Tryz.underlying25 Tryz.underlying3 hi hz n (by omega) (by omega) (by omega) (by rw [hby]; omega))
    have hGn : n ≤ grownCap w n 0 3 := grownCap_ge w _ _ _
    have hG63 : grownCap w n 0 3 ≤ maxLen := grownCap_le_maxLen w n 0 3 (by unfold maxLen; omega)
    generalize grownCap w n 0 3 = G at *
    obtain ⟨W, hW⟩ : ∃ W, W = w.drew.alloc (.cells (Builtin.zeroCells (Value.int .i64 0).cells n ++ Builtin.zeroCells (Value.int .i64 0).cells (G - n)) 3) := ⟨_, rfl⟩
    rw [← hW] at hrz
    have HO : Aside (W.ownsRow w.heap.size 3 1 (.slice (some ⟨w.heap.size, 0, none⟩) 0 G) 0 []) := by
      refine ⟨rfl, .inr ⟨w.heap.size, G, Builtin.zeroCells (Value.int .i64 0).cells n ++ Builtin.zeroCells (Value.int .i64 0).cells (G - n), rfl, Nat.le_refl _, ?_, Nat.zero_le _, hG63, ?_, ?_⟩⟩
      · rw [hW]; exact (MapKept.heap_alloc w.drew _).1
      · simp [size_zeroCells, Value.cells]; omega
      · simp
    have HB : Aside (Below w.heap.size w W) := by rw [hW]; exact Below.al (Below.of_dr w 1) _
    clear hW hE hz1 hz2 hi hz hsz hby
    have hG9 : (0 : Int) ≤ (G : Int) := by omega
    have hc1 : ((n : Int) > 0) = True := by simp; omega
    have hc2 : ((n : Int) < 0) = False := by simp
    unfold maxLen at hG63
    go_enter Tryz.func131, Tryz.ntmps131
    go_wp2_with (at_builtin; refine Lib.wpList_append_run _ rfl _ _ _ _ rfl _ _ rfl rfl _ _ (hrz.out _) ?_)
    go_ret
    exact ⟨_, G, rfl, HO.out, HB.out⟩

set_option maxRecDepth 100000 in
set_option maxHeartbeats 1000000 in
/-- slices.Concat of two rows -/
theorem Concat2_any (bk : Nat) (ao bo : Option Addr) (ca cb cq : Nat) (la lb : List Int) (w : World) (hla : la.length ≤ 1048576) (hlb : lb.length ≤ 1048576)
    (h0 : w.cell? ⟨bk, 0, none⟩ = some (.slice ao la.length ca)) (h1 : w.cell? ⟨bk, 1, none⟩ = some (.slice bo lb.length cb)) (ha : Cel w ao (la.map encI)) (hb : Cel w bo (lb.map encI)) :
    Calls Tryz.prog 89 #[.slice (some ⟨bk, 0, none⟩) 2 cq] w fun e w' => ∃ ao' cap', e = .returned (.slice ao' (la ++ lb).length cap') ∧ Cel w' ao' ((la ++ lb).map encI) ∧ Below w.heap.size w w' ∧ ∀ x, ao' = some x → w.heap.size ≤ x.block := by
  have HA := Lib.hid ha
  have HB := Lib.hid hb
  have H0 := Lib.hid h0
  have H1 := Lib.hid h1
  clear ha hb
  have HG := Lib.hid (fun W => Grow_any (la.length + lb.length) W (by omega))
  go_enter Tryz.func89, Tryz.ntmps89
  go_wp2
  refine wp_loop_rounds 3 ?_
  rw [rounds_succ]
  go_wp2
  rw [rounds_succ]
  go_wp2
  rw [rounds_succ]
  go_wp2_with fail
  refine (HG.out _).mono ?_
  rintro e w1 ⟨a1, c1, rfl, ho1, hb1⟩
  have m0 := cell_later hb1 h0
  have m1 := cell_later hb1 h1
  have HO1 := Lib.hid ho1
  have HB1 := Lib.hid hb1
  clear ho1 hb1 h0 h1
  go_wp2
  refine wp_loop_rounds 3 ?_
  rw [rounds_succ]
  obtain ⟨a2, c2, w2, hr2, ho2, hb2⟩ := run_appAll (P := Tryz.prog) 25 25 w.heap.size 3 _ 8 elem_int Tryz.underlying25 a1 0 c1 [] HO1.out ao la.length ca (la.map encI) (HA.out.go HB1.out) (fun u hu => by obtain ⟨x, _, rfl⟩ := List.mem_map.1 hu; rfl) (by refine ⟨by simp, by omega, by omega, HB1.out.size⟩)
  simp only [Nat.zero_add, List.nil_append] at hr2 ho2
  have HB2 := Lib.hid (HB1.out.trans hb2)
  have n0 := cell_later HB2.out H0.out
  have n1 := cell_later HB2.out H1.out
  obtain ⟨a3, c3, w3, hr3, ho3, hb3⟩ := run_appAll (P := Tryz.prog) 25 25 w.heap.size 3 _ 8 elem_int Tryz.underlying25 a2 la.length c2 (la.map encI) ho2 bo lb.length cb (lb.map encI) (HB.out.go HB2.out) (fun u hu => by obtain ⟨x, _, rfl⟩ := List.mem_map.1 hu; rfl) (by refine ⟨by simp, by omega, by omega, HB2.out.size⟩)
  have HR2 := Lib.hid hr2
  have HR3 := Lib.hid hr3
  have HO3 := Lib.hid ho3
  have HB3 := Lib.hid (HB2.out.trans hb3)
  clear hr2 ho2 hb2 hr3 ho3 hb3
  go_wp2_with (at_builtin; refine Lib.wpList_append_run _ rfl _ _ _ _ rfl _ _ rfl rfl _ _ HR2.out ?_)
  rw [rounds_succ]
  go_wp2_with (at_builtin; refine Lib.wpList_append_run _ rfl _ _ _ _ rfl _ _ rfl rfl _ _ HR3.out ?_)
  rw [rounds_succ]
  go_wp2
  go_ret
  obtain ⟨ao3, cap3, e3, h3⟩ := Cel.of_owns HO3.out
  cases e3
  refine ⟨a3, c3, ?_, by simpa using h3, HB3.out, ?_⟩
  · simp
  · rintro x rfl
    rcases HO3.out.2 with ⟨e, _⟩ | ⟨g, cap', cur, e, hb, _⟩
    · cases e
    · cases e
      exact hb
end Go.Proofs.YtkdomobedfhhgaaGreat
end

section
namespace Go.Proofs.YtkdomobedfhhgaaGreat
open Go.Proofs Go.RowKit Go.Shelf

set_option maxRecDepth 100000 in
set_option maxHeartbeats 1000000 in
theorem Join_any (ao bo : Option Addr) (ca cb : Nat) (la lb : List Int) (wa wb : Int) (w : World) (hla : la.length ≤ 1048576) (hlb : lb.length ≤ 1048576)
    (ha : Cel w ao (la.map encI)) (hb : Cel w bo (lb.map encI)) :
    Calls Tryz.prog 107 #[.agg #[.slice ao la.length ca, .int .u64 wa], .agg #[.slice bo lb.length cb, .int .u64 wb]] w fun e w' =>
      ∃ ao' cap', e = .returned (.agg #[.slice ao' (la ++ lb).length cap', .int .u64 (IntKind.u64.wrap (wa + wb))]) ∧ Cel w' ao' ((la ++ lb).map encI) ∧ Below w.heap.size w w' ∧ ∀ x, ao' = some x → w.heap.size ≤ x.block := by
  have HA := Lib.hid ha
  have HB := Lib.hid hb
  clear ha hb
  have HC := Lib.hid (fun bk cq W h0 h1 h2 h3 => Concat2_any bk ao bo ca cb cq la lb W hla hlb h0 h1 h2 h3)
  generalize (la ++ lb).length = n at *
  go_enter Tryz.func107, Tryz.ntmps107
  have d1 : ¬ (w.heap.size + 1 + 1 = w.heap.size) := by omega
  have d2 : ¬ (w.heap.size = w.heap.size + 1 + 1) := by omega
  go_wp2
  go_region_held3 (fun w' => w'.cell? ⟨w.heap.size, 0, none⟩ = some (.slice ao la.length ca) ∧ w'.cell? ⟨w.heap.size, 1, none⟩ = some (.int .u64 wa) ∧ w'.cell? ⟨w.heap.size + 1, 0, none⟩ = some (.slice bo lb.length cb) ∧ w'.cell? ⟨w.heap.size + 1, 1, none⟩ = some (.int .u64 wb)) (go_keep) (first
    | (go_at_call 89; refine (HC.out _ _ _ (by go_simp) (by go_simp) (HA.out.go (by repeat (first | exact Below.refl _ _ | refine Below.al ?_ _ | refine Below.dr ?_ _ | refine Below.drew ?_ | assumption | (refine Below.st ?_ (by assumption))))) (HB.out.go (by repeat (first | exact Below.refl _ _ | refine Below.al ?_ _ | refine Below.dr ?_ _ | refine Below.drew ?_ | assumption | (refine Below.st ?_ (by assumption)))))).mono ?_; rintro e w1 ⟨a1, c1, rfl, hc1, hb1, hn1⟩
       have q0 := cell_later hb1 (a := ⟨w.heap.size, 0, none⟩) (v := .slice ao la.length ca) (by go_simp)
       have q1 := cell_later hb1 (a := ⟨w.heap.size, 1, none⟩) (v := .int .u64 wa) (by go_simp)
       have q2 := cell_later hb1 (a := ⟨w.heap.size + 1, 0, none⟩) (v := .slice bo lb.length cb) (by go_simp)
       have q3 := cell_later hb1 (a := ⟨w.heap.size + 1, 1, none⟩) (v := .int .u64 wb) (by go_simp)
       have q4 := cell_later hb1 (a := ⟨w.heap.size + 1 + 1, 0, none⟩) (v := .slice none 0 0) (by go_simp)
       have q5 := cell_later hb1 (a := ⟨w.heap.size + 1 + 1, 1, none⟩) (v := .int .u64 0) (by go_simp)
       have z4 : w1.frozen? ⟨w.heap.size + 1 + 1, 0, none⟩ = false := (hb1.frozen (by simp)).trans (by go_simp)
       have z5 : w1.frozen? ⟨w.heap.size + 1 + 1, 1, none⟩ = false := (hb1.frozen (by simp)).trans (by go_simp)))
  go_wp2
  have r0 : ((w1.setCell ⟨w.heap.size + 1 + 1, 0, none⟩ (.slice a1 n c1)).setCell ⟨w.heap.size + 1 + 1, 1, none⟩ (.int .u64 (IntKind.u64.wrap (wa + wb)))).cell? ⟨w.heap.size + 1 + 1, 0, none⟩ = some (.slice a1 n c1) := by
    rw [World.cell?_setCell_other _ _ _ _ (by simp)]; exact World.cell?_setCell_same _ _ _ q4
  have r1 : ((w1.setCell ⟨w.heap.size + 1 + 1, 0, none⟩ (.slice a1 n c1)).setCell ⟨w.heap.size + 1 + 1, 1, none⟩ (.int .u64 (IntKind.u64.wrap (wa + wb)))).cell? ⟨w.heap.size + 1 + 1, 1, none⟩ = some (.int .u64 (IntKind.u64.wrap (wa + wb))) :=
    World.cell?_setCell_same _ _ _ (u := .int .u64 0) (by rw [World.cell?_setCell_other _ _ _ _ (by simp)]; exact q5)
  have hb2 : Below w.heap.size w w1 := by repeat (first | exact Below.refl _ _ | refine Below.al ?_ _ | refine Below.dr ?_ _ | refine Below.drew ?_ | assumption | (refine Below.st ?_ (by assumption)))
  have hs2 := hb1.size
  simp at hs2
  have hb3 : Below w.heap.size w ((w1.setCell ⟨w.heap.size + 1 + 1, 0, none⟩ (.slice a1 n c1)).setCell ⟨w.heap.size + 1 + 1, 1, none⟩ (.int .u64 (IntKind.u64.wrap (wa + wb)))) := (hb2.setCell (by simp; omega) _).setCell (by simp; omega) _
  have hc3 : Cel ((w1.setCell ⟨w.heap.size + 1 + 1, 0, none⟩ (.slice a1 n c1)).setCell ⟨w.heap.size + 1 + 1, 1, none⟩ (.int .u64 (IntKind.u64.wrap (wa + wb)))) a1 ((la ++ lb).map encI) := by
    intro i u hu
    obtain ⟨b, o, e, h⟩ := hc1 i u hu
    have := hn1 _ e
    simp at this
    refine ⟨b, o, e, ?_⟩
    rw [World.cell?_setCell_far _ _ _ _ (by simp; omega), World.cell?_setCell_far _ _ _ _ (by simp; omega)]
    exact h
  have HF := Lib.hid (And.intro hc3 (And.intro hb3 (show ∀ x, a1 = some x → w.heap.size ≤ x.block from fun x hx => by
    have := hn1 _ hx
    simp at this
    omega)))
  clear hn1 q0 q1 q2 q3 q4 q5 z4 z5 hb1 hb2 hc1 hb3 hc3
  generalize (w1.setCell ⟨w.heap.size + 1 + 1, 0, none⟩ (.slice a1 n c1)).setCell ⟨w.heap.size + 1 + 1, 1, none⟩ (.int .u64 (IntKind.u64.wrap (wa + wb))) = W at *
  refine bodyPost_ret (by simp [results, Tryz.results107, go_sem, r0, r1]; try rfl) rfl ?_
  exact ⟨a1, c1, rfl, HF.out.1, HF.out.2.1, HF.out.2.2⟩

end Go.Proofs.YtkdomobedfhhgaaGreat
end
