/-
  Walks of ways, by the reference: which rows are edges, the nodes they come by, what they weigh, whether they are ways.
  What a shortcut stands for is a way of its weight, whose nodes between lie below both its ends, in plain Lean.
-/
import Derived.Test.YtkdomobedfhhgaaGreatProg
import Derived.Test.YtkdomobedfhhgaaGreatQb17
import Derived.Test.YtkdomobedfhhgaaGreatQb22
import Derived.Deep.RegionLaw
import Derived.Test.YtkdomobedfhhgaaGreatRb01
set_option linter.unusedVariables false
set_option linter.unusedSimpArgs false
set_option linter.unnecessarySimpa false
section
namespace Go.Proofs.YtkdomobedfhhgaaGreat
open Go.Proofs Go.RowKit Go.Shelf

/-- are all of them edges of a graph that may be -/
def edgesB (g : GD) (l : List Int) : Bool := rightG g == 0 && !(l.any fun e => !edgeB g.es.length e)

theorem edgesB_1 {g : GD} {l : List Int} (h : (rightG g != 0) = true) : edgesB g l = false := by
  have h2 : (rightG g == 0) = false := by simpa using h
  unfold edgesB
  rw [h2]; rfl
theorem edgesB_2 {g : GD} {l : List Int} (h : (rightG g != 0) = false) : edgesB g l = !(l.any fun e => !edgeB g.es.length e) := by
  have h2 : (rightG g == 0) = true := by simpa using h
  unfold edgesB
  rw [h2]; rfl

set_option maxHeartbeats 2000000 in
theorem refedges_any (g : GD) (ao bo : Option Addr) (cap cb : Nat) (l : List Int) (w : World) (hl : g.es.length ≤ 9223372036854775807) (hll : l.length ≤ 9223372036854775807) (hc : Cel w ao (flat g.es)) (hd : Cel w bo (l.map encI)) :
    Calls Tryz.prog 95 #[.agg #[.int .i64 g.n, .slice ao g.es.length cap], .slice bo l.length cb] w fun e w' => e = .returned (.bool (edgesB g l)) ∧ Below w.heap.size w w' := by
  have HC := Lib.hid hc
  have HD := Lib.hid hd
  clear hc hd
  have X1 := Lib.hid (fun W h => refRightG_any g ao cap W hl h)
  have E1 := Lib.hid (@edgesB_1 g l)
  have E2 := Lib.hid (@edgesB_2 g l)
  generalize edgesB g l = r at *
  cases q1 : (rightG g != 0) with
  | true =>
    have HR := Lib.hid (E1.out q1)
    generalize rightG g = f at *
    go_enter Tryz.func95, Tryz.ntmps95
    go_wp2_with (go_at_call 41; refine (X1.out _ (HC.out.go (by repeat (first | exact Below.refl _ _ | refine Below.al ?_ _ | refine Below.dr ?_ _ | refine Below.drew ?_ | assumption | (refine Below.st ?_ (by assumption)))))).mono ?_; rintro e w1 ⟨rfl, hb1⟩)
    go_ret
    exact ⟨by rw [HR.out]; rfl, by repeat (first | exact Below.refl _ _ | refine Below.al ?_ _ | refine Below.dr ?_ _ | refine Below.drew ?_ | assumption | (refine Below.st ?_ (by assumption)))⟩
  | false =>
    have HR := Lib.hid (E2.out q1)
    generalize rightG g = f at *
    go_enter Tryz.func95, Tryz.ntmps95
    go_wp2_with fail
    obtain ⟨W, hW, c0, c1, hsW⟩ : ∃ W, W = w.alloc (Obj.cells #[.int .i64 g.n, .slice ao g.es.length cap] 24) ∧ W.cell? ⟨w.heap.size, 0, none⟩ = some (.int .i64 g.n) ∧ W.cell? ⟨w.heap.size, 1, none⟩ = some (.slice ao g.es.length cap) ∧ w.heap.size < W.heap.size := ⟨_, rfl, by go_simp, by go_simp, by simp⟩
    rw [← hW]
    have HW := Lib.hid (show Below w.heap.size w W by rw [hW]; repeat (first | exact Below.refl _ _ | refine Below.al ?_ _ | refine Below.dr ?_ _ | refine Below.drew ?_ | assumption | (refine Below.st ?_ (by assumption))))
    clear hW
    refine (X1.out _ (HC.out.go HW.out)).mono ?_
    rintro e w1 ⟨rfl, hb1⟩
    have c0' := cell_later hb1 c0
    have c1' := cell_later hb1 c1
    have HW1 := Lib.hid (HW.out.st hb1)
    have hsW1 : w.heap.size < w1.heap.size := by have := hb1.size; omega
    clear HW c0 c1 hb1 hsW
    go_wp2
    go_loopg [5] l.length (fun gg i wr => ∃ k q : Nat, k ≤ l.length ∧ l.length - k ≤ gg ∧ i = .int .i64 k ∧ wr = w1.drewN q ∧ Aside (∀ j (h : j < l.length), j < k → (!edgeB g.es.length l[j]) = false))
    case atStart => exact ⟨0, 0, Nat.zero_le _, by omega, rfl, rfl, fun j _ h => absurd h (Nat.not_lt_zero _)⟩
    case round =>
      obtain ⟨k, qn, hk, hg, rfl, rfl, HA⟩ := hrel
      by_cases hlt : k < l.length
      · have hlt3 : (k : Int) < (l.length : Int) := by omega
        have hk0 : (0 : Int) ≤ (k : Int) := by omega
        obtain ⟨b, o, hao, f1⟩ := (HD.out.go HW1.out).at hlt
        have HN := Lib.hid (fun h => @upto_succ _ (fun e => !edgeB g.es.length e) l k HA.out hlt h)
        have HY := Lib.hid (fun h => @any_at _ (fun e => !edgeB g.es.length e) l k hlt h)
        generalize l[k] = x at *
        subst hao
        by_cases d1 : x < 0
        · have HZ := Lib.hid (HY.out (by simp [edgeB]; omega))
          have t1 : decide (x < 0) = true := by simp [d1]
          go_wp2
          go_quiet (fail)
          go_wp2
          go_ret
          exact ⟨by rw [HR.out, HZ.out]; rfl, (HW1.out.dr _).dr _⟩
        · have t1 : decide (x < 0) = false := by simp; omega
          by_cases d2 : (g.es.length : Int) ≤ x
          · have HZ := Lib.hid (HY.out (by simp [edgeB]; omega))
            have t2 : decide ((g.es.length : Int) ≤ x) = true := by simp [d2]
            go_wp2
            go_quiet (fail)
            go_wp2
            go_ret
            exact ⟨by rw [HR.out, HZ.out]; rfl, (HW1.out.dr _).dr _⟩
          · have HZ := Lib.hid (HN.out (by simp [edgeB]; omega))
            have t2 : decide ((g.es.length : Int) ≤ x) = false := by simp; omega
            go_wp2
            go_quiet (fail)
            go_wp2
            go_roundg (l.length - (k + 1))
            case measure => omega
            case rel => exact ⟨k + 1, qn + nq, by omega, by omega, by go_num, rfl, HZ.out⟩
      · obtain rfl : k = l.length := by omega
        have HZ := Lib.hid (@any_from _ (fun e => !edgeB g.es.length e) l (fun j h => HA.out j h h))
        go_wp2
        go_ret
        exact ⟨by rw [HR.out, HZ.out]; rfl, HW1.out.dr _⟩



def edD : EdgeD := ⟨0, 0, 0⟩
/-- from node s on, the nodes of out met so far -/
def walkGo (es : List EdgeD) : Int → List Int → List Int → Option (List Int)
  | _, out, [] => some out
  | s, out, e :: r => if (es.getD e.toNat edD).f = s then walkGo es (es.getD e.toNat edD).t (out ++ [(es.getD e.toNat edD).t]) r else none
def nodesG (g : GD) (s : Int) (l : List Int) : Option (List Int) := if edgesB g l && nodeB g.n s then walkGo g.es s [s] l else none

theorem nodesG_no1 {g : GD} {s : Int} {l : List Int} (h : edgesB g l = false) : nodesG g s l = none := by unfold nodesG; rw [h]; rfl
theorem nodesG_no2 {g : GD} {s : Int} {l : List Int} (h : nodeB g.n s = false) : nodesG g s l = none := by unfold nodesG; rw [h, Bool.and_false]; rfl
theorem nodesG_yes {g : GD} {s : Int} {l : List Int} (h : edgesB g l = true) (h2 : nodeB g.n s = true) : nodesG g s l = walkGo g.es s [s] l := by unfold nodesG; rw [h, h2]; rfl

theorem edgesB_mem {g : GD} {l : List Int} (h : edgesB g l = true) {e : Int} (he : e ∈ l) : 0 ≤ e ∧ e < (g.es.length : Int) := by
  unfold edgesB at h
  simp only [Bool.and_eq_true, Bool.not_eq_true', List.any_eq_false] at h
  have := h.2 e he
  simpa [edgeB] using this
theorem edgesB_right {g : GD} {l : List Int} (h : edgesB g l = true) : rightG g = 0 := by
  unfold edgesB at h
  simp only [Bool.and_eq_true, beq_iff_eq] at h
  exact h.1
theorem walk_step_yes {es : List EdgeD} {s : Int} {out l : List Int} {k : Nat} (hk : k < l.length) (h0 : 0 ≤ l[k]) (h1 : l[k].toNat < es.length) (h : es[l[k].toNat].f = s) :
    walkGo es s out (l.drop k) = walkGo es es[l[k].toNat].t (out ++ [es[l[k].toNat].t]) (l.drop (k + 1)) := by
  rw [List.drop_eq_getElem_cons hk, walkGo]
  have : es.getD l[k].toNat edD = es[l[k].toNat] := by simp [List.getD, h1]
  rw [this, if_pos h]
theorem walk_step_no {es : List EdgeD} {s : Int} {out l : List Int} {k : Nat} (hk : k < l.length) (h0 : 0 ≤ l[k]) (h1 : l[k].toNat < es.length) (h : ¬ es[l[k].toNat].f = s) :
    walkGo es s out (l.drop k) = none := by
  rw [List.drop_eq_getElem_cons hk, walkGo]
  have : es.getD l[k].toNat edD = es[l[k].toNat] := by simp [List.getD, h1]
  rw [this, if_neg h]
theorem walk_end {es : List EdgeD} {s : Int} {out l : List Int} : walkGo es s out (l.drop l.length) = some out := by rw [List.drop_length, walkGo]

theorem cap_of_owns {w : World} {base : Nat} {e : TypeId} {size n cap : Nat} {ao : Option Addr} {xs : List Value} (h : w.ownsRow base e size (.slice ao n cap) n xs) : n ≤ cap := by
  rcases h.2 with ⟨h1, rfl⟩ | ⟨g, cap', cur, h1, hb, hg, rest⟩
  · omega
  · cases h1
    omega

def NodesPost (w : World) (r : Option (List Int)) (e : Ending) (w' : World) : Prop :=
  ∃ ao cap, e = .returned (.tuple #[.slice ao (r.getD []).length cap, .bool r.isSome]) ∧ Cel w' ao ((r.getD []).map encI) ∧ Below w.heap.size w w' ∧ (r.getD []).length ≤ cap

set_option maxHeartbeats 2000000 in
theorem pNodes_any (g : GD) (ao bo : Option Addr) (cap cb : Nat) (s : Int) (l : List Int) (w : World) (hl : g.es.length ≤ 9223372036854775807) (hll : l.length ≤ 1099511627776) (hc : Cel w ao (flat g.es)) (hd : Cel w bo (l.map encI)) :
    Calls Tryz.prog 52 #[.agg #[.int .i64 g.n, .slice ao g.es.length cap], .int .i64 s, .slice bo l.length cb] w (NodesPost w (nodesG g s l)) := by
  have HC := Lib.hid hc
  have HD := Lib.hid hd
  clear hc hd
  have X1 := Lib.hid (fun W h1 h2 => refedges_any g ao bo cap cb l W hl (by omega) h1 h2)
  cases q1 : edgesB g l with
  | false =>
    have HR := Lib.hid (nodesG_no1 (s := s) q1)
    rw [q1] at X1
    clear q1
    generalize nodesG g s l = r at *
    go_enter Tryz.func52, Tryz.ntmps52
    go_wp2_with fail
    obtain ⟨W, hW, c0, c1, hsW⟩ : ∃ W, W = w.alloc (Obj.cells #[.int .i64 g.n, .slice ao g.es.length cap] 24) ∧ W.cell? ⟨w.heap.size, 0, none⟩ = some (.int .i64 g.n) ∧ W.cell? ⟨w.heap.size, 1, none⟩ = some (.slice ao g.es.length cap) ∧ w.heap.size < W.heap.size := ⟨_, rfl, by go_simp, by go_simp, by simp⟩
    rw [← hW]
    have HW := Lib.hid (show Below w.heap.size w W by rw [hW]; repeat (first | exact Below.refl _ _ | refine Below.al ?_ _ | refine Below.dr ?_ _ | refine Below.drew ?_ | assumption | (refine Below.st ?_ (by assumption))))
    clear hW
    refine (X1.out _ (HC.out.go HW.out) (HD.out.go HW.out)).mono ?_
    rintro e w2 ⟨rfl, hb2⟩
    have m0 := cell_later hb2 c0
    have m1 := cell_later hb2 c1
    have HW2 := Lib.hid (HW.out.st hb2)
    have hs2 : w.heap.size < w2.heap.size := by have := hb2.size; omega
    clear c0 c1 hb2 hsW HW
    have c0 := m0
    have c1 := m1
    clear m0 m1
    go_wp2
    go_ret2
    exact ⟨none, 0, by rw [HR.out]; rfl, by rw [HR.out]; exact Cel.nil _ _, HW2.out, by rw [HR.out]; exact Nat.le_refl _⟩
  | true =>
    have HM := Lib.hid (fun e he => edgesB_mem q1 (e := e) he)
    rw [q1] at X1
    by_cases q2 : s < 0 ∨ g.n ≤ s
    · have HR := Lib.hid (nodesG_no2 (g := g) (s := s) (l := l) (by unfold nodeB; simp; omega))
      clear q1
      generalize nodesG g s l = r at *
      by_cases q3 : s < 0
      all_goals
        have q4 : s < 0 ∨ g.n ≤ s := q2
        clear q2
        try have q5 : g.n ≤ s := by omega
        clear q4
        go_enter Tryz.func52, Tryz.ntmps52
        go_wp2_with fail
        obtain ⟨W, hW, c0, c1, hsW⟩ : ∃ W, W = w.alloc (Obj.cells #[.int .i64 g.n, .slice ao g.es.length cap] 24) ∧ W.cell? ⟨w.heap.size, 0, none⟩ = some (.int .i64 g.n) ∧ W.cell? ⟨w.heap.size, 1, none⟩ = some (.slice ao g.es.length cap) ∧ w.heap.size < W.heap.size := ⟨_, rfl, by go_simp, by go_simp, by simp⟩
        rw [← hW]
        have HW := Lib.hid (show Below w.heap.size w W by rw [hW]; repeat (first | exact Below.refl _ _ | refine Below.al ?_ _ | refine Below.dr ?_ _ | refine Below.drew ?_ | assumption | (refine Below.st ?_ (by assumption))))
        clear hW
        refine (X1.out _ (HC.out.go HW.out) (HD.out.go HW.out)).mono ?_
        rintro e w2 ⟨rfl, hb2⟩
        have m0 := cell_later hb2 c0
        have m1 := cell_later hb2 c1
        have HW2 := Lib.hid (HW.out.st hb2)
        have hs2 : w.heap.size < w2.heap.size := by have := hb2.size; omega
        clear c0 c1 hb2 hsW HW
        have c0 := m0
        have c1 := m1
        clear m0 m1
        go_wp2
        go_ret2
        exact ⟨none, 0, by rw [HR.out]; rfl, by rw [HR.out]; exact Cel.nil _ _, HW2.out, by rw [HR.out]; exact Nat.le_refl _⟩
    · have HR := Lib.hid (nodesG_yes q1 (s := s) (by unfold nodeB; simp; omega))
      clear q1
      generalize nodesG g s l = r at *
      have q3 : ¬ s < 0 := by omega
      have q4 : ¬ g.n ≤ s := by omega
      clear q2
      go_enter Tryz.func52, Tryz.ntmps52
      go_wp2_with fail
      obtain ⟨W, hW, c0, c1, hsW⟩ : ∃ W, W = w.alloc (Obj.cells #[.int .i64 g.n, .slice ao g.es.length cap] 24) ∧ W.cell? ⟨w.heap.size, 0, none⟩ = some (.int .i64 g.n) ∧ W.cell? ⟨w.heap.size, 1, none⟩ = some (.slice ao g.es.length cap) ∧ w.heap.size < W.heap.size := ⟨_, rfl, by go_simp, by go_simp, by simp⟩
      rw [← hW]
      have HW := Lib.hid (show Below w.heap.size w W by rw [hW]; repeat (first | exact Below.refl _ _ | refine Below.al ?_ _ | refine Below.dr ?_ _ | refine Below.drew ?_ | assumption | (refine Below.st ?_ (by assumption))))
      clear hW
      refine (X1.out _ (HC.out.go HW.out) (HD.out.go HW.out)).mono ?_
      rintro e w2 ⟨rfl, hb2⟩
      have m0 := cell_later hb2 c0
      have m1 := cell_later hb2 c1
      have HW2 := Lib.hid (HW.out.st hb2)
      have hs2 : w.heap.size < w2.heap.size := by have := hb2.size; omega
      clear c0 c1 hb2 hsW HW
      have c0 := m0
      have c1 := m1
      clear m0 m1
      go_wp2
      have HO1 := Lib.hid (World.ownsRow_lit (base := w2.heap.size) (e := 3) (size := 1) w2 #[.int .i64 s] 1 (Nat.le_refl _) (by decide) rfl)
      go_loopg [8, 9] l.length (fun gg v i wr => ∃ (k cap' : Nat) (x : Int) (ao' : Option Addr) (O : List Int), k ≤ l.length ∧ l.length - k ≤ gg ∧ i = .int .i64 k ∧ v = .slice ao' (k + 1) cap' ∧ w2.heap.size ≤ wr.heap.size ∧
        Aside (O.length = k + 1 ∧ O[k]? = some x ∧ wr.ownsRow w2.heap.size 3 1 (.slice ao' (k + 1) cap') (k + 1) (O.map encI) ∧ Below w2.heap.size w2 wr) ∧ Aside (walkGo g.es x O (l.drop k) = r))
      case atStart => exact ⟨0, 1, s, _, [s], Nat.zero_le _, by omega, rfl, rfl, by simp, ⟨rfl, rfl, HO1.out, Below.of_al _ _⟩, HR.out.symm⟩
      case round =>
        clear HO1
        obtain ⟨k, cap', x, ao', O, hk, hg, rfl, rfl, hsz, HA, HG⟩ := hrel
        have m0 := cell_later HA.out.2.2.2 c0
        have m1 := cell_later HA.out.2.2.2 c1
        by_cases hlt : k < l.length
        · obtain ⟨b, o, hbo, f1⟩ := (HD.out.go (HW2.out.st HA.out.2.2.2)).at hlt
          have hin := HM.out l[k] (List.getElem_mem hlt)
          have hj : l[k].toNat < g.es.length := by omega
          obtain ⟨b2, o2, hao2, j1, j2, j3⟩ := (HC.out.go (HW2.out.st HA.out.2.2.2)).edge hj
          have HY := Lib.hid (fun h => walk_step_yes (out := O) (s := x) hlt hin.1 hj h)
          have HNo := Lib.hid (fun h => walk_step_no (out := O) (s := x) hlt hin.1 hj h)
          rw [HG.out] at HY HNo
          have i0 : 0 ≤ l[k] := hin.1
          have i1 : l[k] < (g.es.length : Int) := hin.2
          have k0 : (0 : Int) ≤ (k : Int) := by omega
          have k1 : (k : Int) < (l.length : Int) := by omega
          have hlast : ∃ b3, ao' = some ⟨b3, 0, none⟩ ∧ w2.heap.size ≤ b3 ∧ b3 < wr.heap.size ∧ wr.cell? ⟨b3, k, none⟩ = some (.int .i64 x) := by
            obtain ⟨g3, cap3, e3, hg3, hb3⟩ := HA.out.2.2.1.form (by omega)
            cases e3
            refine ⟨g3, rfl, hg3, hb3, ?_⟩
            rw [HA.out.2.2.1.cellAt k (by omega), List.getElem?_map, HA.out.2.1]
            rfl
          obtain ⟨b3, hao3, hb3, hb3', j4⟩ := hlast
          generalize g.es[l[k].toNat] = ed at *
          generalize l[k] = ei at *
          subst hbo hao2 hao3
          have t0 : (0 : Int) ≤ (k : Int) + 1 - 1 := by omega
          by_cases he : ed.f = x
          · have t1 : (ed.f != x) = false := by simp [he]
            have HQ := Lib.hid (HY.out he)
            clear he
            have u1 := fun o' => cell_later (Below.of_al wr o') f1
            have u2 := fun o' => cell_later (Below.of_al wr o') j1
            have u3 := fun o' => cell_later (Below.of_al wr o') j2
            have u4 := fun o' => cell_later (Below.of_al wr o') j3
            have u5 := fun o' => cell_later (Below.of_al wr o') m1
            have u6 := fun o' => cell_later (Below.of_al wr o') j4
            go_wp2
            go_region
            obtain ⟨W4, hW4, n1, n2, n4, hs4⟩ : ∃ W4, W4 = (wr.alloc (Obj.cells #[.int .i64 ed.f, .int .i64 ed.t, .int .u64 ed.w] 119)).drew ∧ W4.cell? ⟨wr.heap.size, 0, none⟩ = some (.int .i64 ed.f) ∧ W4.cell? ⟨wr.heap.size, 1, none⟩ = some (.int .i64 ed.t) ∧ W4.cell? ⟨b3, k, none⟩ = some (.int .i64 x) ∧ w2.heap.size ≤ W4.heap.size := ⟨_, rfl, by go_simp, by go_simp, by go_simp, by simp; omega⟩
            have HO4 := Lib.hid (show W4.ownsRow w2.heap.size 3 1 (.slice (some ⟨b3, 0, none⟩) (k + 1) cap') (k + 1) (O.map encI) by rw [hW4]; exact (HA.out.2.2.1.alloc _).drew)
            have HB4 := Lib.hid (show Below w2.heap.size w2 W4 by rw [hW4]; exact ((HA.out.2.2.2.alloc hsz _).drew))
            rw [← hW4]
            clear hW4 u1 u2 u3 u4 u5 u6
            go_wp2
            go_quiet (fail)
            go_wp2_with (at_builtin; go_must ((with_reducible refine wpList_app w2.heap.size 3 _ 1 8 elem_int Tryz.underlying25 (.slice (some ⟨b3, 0, none⟩) (k + 1) cap') (k + 1) _ ⟨W4.heap.size, 0, none⟩ 1 1 ?_ ?_ ?_ (World.ownsRow.alloc (owns_dr HO4.out nq) _) ?_ ?_ ?_ ?_); rotate_left 1; (· rfl); (· rfl); (· exact cell_one_new _ _ _); (· exact one_cells rfl); (· exact ⟨rfl, by decide, by omega, by omega, by simp; omega⟩); intro g1 cap1 w1 hown hgrow hbl hat hlt1; (have H1o := Lib.hid hown; have H1b := Lib.hid hbl; have H1g := Lib.hid (And.intro hgrow hat); clear hown hgrow hbl hat)))
            go_roundg (l.length - (k + 1))
            case measure => omega
            case rel =>
              refine ⟨k + 1, cap1, ed.t, some ⟨g1, 0, none⟩, O ++ [ed.t], by omega, by omega, by go_num, rfl, by have := H1b.out.size; simp at this; omega, ⟨by simp [HA.out.1], ?_, ?_, HB4.out.trans ((Below.alloc (below_drewN (Below.refl _ _) _) (by simp; omega) _).trans H1b.out)⟩, HQ.out.symm⟩
              · rw [List.getElem?_append_right (by rw [HA.out.1]; omega), HA.out.1]; simp
              · rw [List.map_append]; exact H1o.out
          · have t1 : (ed.f != x) = true := by simp [he]
            have HQ := Lib.hid (HNo.out he)
            clear he
            have u1 := fun o' => cell_later (Below.of_al wr o') f1
            have u2 := fun o' => cell_later (Below.of_al wr o') j1
            have u3 := fun o' => cell_later (Below.of_al wr o') j2
            have u4 := fun o' => cell_later (Below.of_al wr o') j3
            have u5 := fun o' => cell_later (Below.of_al wr o') m1
            have u6 := fun o' => cell_later (Below.of_al wr o') j4
            go_wp2
            go_region
            obtain ⟨W4, hW4, n1, n2, n4, hs4⟩ : ∃ W4, W4 = (wr.alloc (Obj.cells #[.int .i64 ed.f, .int .i64 ed.t, .int .u64 ed.w] 119)).drew ∧ W4.cell? ⟨wr.heap.size, 0, none⟩ = some (.int .i64 ed.f) ∧ W4.cell? ⟨wr.heap.size, 1, none⟩ = some (.int .i64 ed.t) ∧ W4.cell? ⟨b3, k, none⟩ = some (.int .i64 x) ∧ w2.heap.size ≤ W4.heap.size := ⟨_, rfl, by go_simp, by go_simp, by go_simp, by simp; omega⟩
            have HO4 := Lib.hid (show W4.ownsRow w2.heap.size 3 1 (.slice (some ⟨b3, 0, none⟩) (k + 1) cap') (k + 1) (O.map encI) by rw [hW4]; exact (HA.out.2.2.1.alloc _).drew)
            have HB4 := Lib.hid (show Below w2.heap.size w2 W4 by rw [hW4]; exact ((HA.out.2.2.2.alloc hsz _).drew))
            rw [← hW4]
            clear hW4 u1 u2 u3 u4 u5 u6
            go_wp2
            go_quiet (fail)
            go_wp2
            go_ret2
            exact ⟨none, 0, by rw [HQ.out]; rfl, by rw [HQ.out]; exact Cel.nil _ _, HW2.out.st (HB4.out.dr _), by rw [HQ.out]; exact Nat.le_refl _⟩
        · obtain rfl : k = l.length := by omega
          have HQ := Lib.hid (@walk_end g.es x O l)
          rw [HG.out] at HQ
          go_wp2
          go_ret2
          obtain ⟨ao3, cap3, e3, h3⟩ := Cel.of_owns HA.out.2.2.1
          cases e3
          exact ⟨ao', cap', by rw [HQ.out]; simp [HA.out.1], by rw [HQ.out]; exact h3, HW2.out.st HA.out.2.2.2, by rw [HQ.out]; exact HA.out.1 ▸ cap_of_owns HA.out.2.2.1⟩

def wt (es : List EdgeD) (e : Int) : Int := (es.getD e.toNat edD).w
def offF (es : List EdgeD) : Int → List Int → List Int
  | a, [] => [a]
  | a, e :: r => a :: offF es (a + wt es e) r
theorem offF_length (es : List EdgeD) : ∀ (l : List Int) (a : Int), (offF es a l).length = l.length + 1
  | [], _ => rfl
  | _ :: r, _ => by simp [offF, offF_length es r]
theorem offF_zero (es : List EdgeD) (l : List Int) (a : Int) : (offF es a l)[0]? = some a := by cases l <;> rfl
theorem offF_step (es : List EdgeD) : ∀ (l : List Int) (a : Int) (k : Nat) (h : k < l.length), (offF es a l)[k + 1]? = ((offF es a l)[k]?).map (· + wt es l[k])
  | e :: r, a, 0, _ => by
    show (offF es (a + wt es e) r)[0]? = _
    rw [offF_zero]; rfl
  | e :: r, a, k + 1, h => by
    show (offF es (a + wt es e) r)[k + 1]? = ((offF es (a + wt es e) r)[k]?).map _
    exact offF_step es r _ k (by simpa using h)

theorem right_weight {g : GD} (h : rightG g = 0) {e : EdgeD} (he : e ∈ g.es) : 1 ≤ e.w ∧ e.w ≤ 4294967296 := by
  unfold rightG at h
  split at h
  · omega
  · split at h
    · omega
    · split at h
      · omega
      · split at h
        · omega
        · rename_i h4
          simp only [List.any_eq_true, not_exists, not_and, Bool.not_eq_true, Bool.not_eq_false'] at h4
          have := h4 e he
          simpa [weightB] using this
theorem wt_bd {g : GD} {l : List Int} (h : edgesB g l = true) {e : Int} (he : e ∈ l) : 1 ≤ wt g.es e ∧ wt g.es e ≤ 4294967296 ∧ ∃ hj : e.toNat < g.es.length, wt g.es e = g.es[e.toNat].w := by
  have h1 := edgesB_mem h he
  have hj : e.toNat < g.es.length := by omega
  have e1 : wt g.es e = g.es[e.toNat].w := by unfold wt; simp [List.getD, hj]
  have := right_weight (edgesB_right h) (List.getElem_mem hj)
  rw [e1]
  exact ⟨this.1, this.2, hj, rfl⟩
theorem offF_bd (es : List EdgeD) : ∀ (l : List Int) (a : Int), (∀ e ∈ l, 1 ≤ wt es e ∧ wt es e ≤ 4294967296) → ∀ (k : Nat) (x : Int), (offF es a l)[k]? = some x → a ≤ x ∧ x ≤ a + k * 4294967296
  | [], a, _, k, x, hx => by
    cases k with
    | zero => simp [offF] at hx; omega
    | succ k => simp [offF] at hx
  | e :: r, a, h, 0, x, hx => by simp [offF] at hx; omega
  | e :: r, a, h, k + 1, x, hx => by
    have h1 := h e (by simp)
    have := offF_bd es r (a + wt es e) (fun e' he' => h e' (by simp [he'])) k x hx
    omega

/-- the offsets, or none -/
def offG (g : GD) (l : List Int) : Option (List Int) := if edgesB g l then some (offF g.es 0 l) else none
theorem offG_no {g : GD} {l : List Int} (h : edgesB g l = false) : offG g l = none := by unfold offG; rw [h]; rfl
theorem offG_yes {g : GD} {l : List Int} (h : edgesB g l = true) : offG g l = some (offF g.es 0 l) := by unfold offG; rw [h]; rfl

/-- what a row of edges weighs -/
def weightG (g : GD) (l : List Int) : Option Int := (offG g l).map fun L => (L[l.length]?).getD 0
theorem weightG_no {g : GD} {l : List Int} (h : offG g l = none) : weightG g l = none := by unfold weightG; rw [h]; rfl

set_option maxHeartbeats 1000000 in
theorem refWeight_any (g : GD) (ao bo : Option Addr) (cap cb : Nat) (l : List Int) (w : World) (hl : g.es.length ≤ 9223372036854775807) (hll : l.length ≤ 1048576) (hc : Cel w ao (flat g.es)) (hd : Cel w bo (l.map encI)) :
    Calls Tryz.prog 50 #[.agg #[.int .i64 g.n, .slice ao g.es.length cap], .slice bo l.length cb] w fun e w' => e = .returned (.tuple #[.int .u64 ((weightG g l).getD 0), .bool (weightG g l).isSome]) ∧ Below w.heap.size w w' := by
  have HC := Lib.hid hc
  have HD := Lib.hid hd
  clear hc hd
  have X1 := Lib.hid (fun W h1 h2 => refedges_any g ao bo cap cb l W hl (by omega) h1 h2)
  cases q1 : edgesB g l with
  | false =>
    have HR := Lib.hid (weightG_no (offG_no q1))
    rw [q1] at X1
    clear q1
    generalize weightG g l = r at *
    go_enter Tryz.func50, Tryz.ntmps50
    go_wp2_with (go_at_call 95; refine (X1.out _ (HC.out.go (by repeat (first | exact Below.refl _ _ | refine Below.al ?_ _ | refine Below.dr ?_ _ | refine Below.drew ?_ | assumption | (refine Below.st ?_ (by assumption))))) (HD.out.go (by repeat (first | exact Below.refl _ _ | refine Below.al ?_ _ | refine Below.dr ?_ _ | refine Below.drew ?_ | assumption | (refine Below.st ?_ (by assumption)))))).mono ?_; rintro e w1 ⟨rfl, hb1⟩)
    go_ret2
    exact ⟨by rw [HR.out]; rfl, by repeat (first | exact Below.refl _ _ | refine Below.al ?_ _ | refine Below.dr ?_ _ | refine Below.drew ?_ | assumption | (refine Below.st ?_ (by assumption)))⟩
  | true =>
    have hwg : weightG g l = some (((offF g.es 0 l)[l.length]?).getD 0) := by unfold weightG; rw [offG_yes q1]; rfl
    have HM := Lib.hid (fun e he => edgesB_mem q1 (e := e) he)
    have HWT := Lib.hid (fun e he => wt_bd q1 (e := e) he)
    have HOB := Lib.hid (offF_bd g.es l 0 (fun e he => ⟨(wt_bd q1 he).1, (wt_bd q1 he).2.1⟩))
    have HR := Lib.hid (offG_yes q1)
    rw [q1] at X1
    clear q1
    have HL := Lib.hid (offF_length g.es l 0)
    have HZ := Lib.hid (offF_zero g.es l 0)
    have HS := Lib.hid (offF_step g.es l 0)
    generalize offG g l = r at *
    generalize offF g.es 0 l = L at *
    generalize weightG g l = rw at *
    have HRW := Lib.hid hwg
    clear hwg
    go_enter Tryz.func50, Tryz.ntmps50
    go_wp2_with fail
    obtain ⟨W, hW, c0, c1, hsW⟩ : ∃ W, W = w.alloc (Obj.cells #[.int .i64 g.n, .slice ao g.es.length cap] 24) ∧ W.cell? ⟨w.heap.size, 0, none⟩ = some (.int .i64 g.n) ∧ W.cell? ⟨w.heap.size, 1, none⟩ = some (.slice ao g.es.length cap) ∧ w.heap.size < W.heap.size := ⟨_, rfl, by go_simp, by go_simp, by simp⟩
    rw [← hW]
    have HW := Lib.hid (show Below w.heap.size w W by rw [hW]; repeat (first | exact Below.refl _ _ | refine Below.al ?_ _ | refine Below.dr ?_ _ | refine Below.drew ?_ | assumption | (refine Below.st ?_ (by assumption))))
    clear hW
    refine (X1.out _ (HC.out.go HW.out) (HD.out.go HW.out)).mono ?_
    rintro e w1 ⟨rfl, hb1⟩
    have m0 := cell_later hb1 c0
    have m1 := cell_later hb1 c1
    have HW1 := Lib.hid (HW.out.st hb1)
    have hs1 : w.heap.size < w1.heap.size := by have := hb1.size; omega
    clear c0 c1 hb1 hsW HW
    go_wp2
    go_loopg [6, 7] l.length (fun gg v i wr => ∃ (k q : Nat) (x : Int), k ≤ l.length ∧ l.length - k ≤ gg ∧ i = .int .i64 k ∧ v = .int .u64 x ∧ wr = w1.drewN q ∧ Aside (L[k]? = some x))
    case atStart => exact ⟨0, 0, 0, Nat.zero_le _, by omega, rfl, rfl, rfl, HZ.out⟩
    case round =>
      obtain ⟨k, qn, x', hk, hg, rfl, rfl, rfl, HX⟩ := hrel
      by_cases hlt : k < l.length
      · have HA := Lib.hid (And.intro True.intro (Below.refl w1.heap.size w1))
        obtain ⟨b, o, hbo, f1⟩ := (HD.out.go (HW1.out.st HA.out.2)).at hlt
        obtain ⟨hw1, hw2, hj, hw3⟩ := HWT.out l[k] (List.getElem_mem hlt)
        have hin := HM.out l[k] (List.getElem_mem hlt)
        obtain ⟨b2, o2, hao2, j1, j2, j3⟩ := (HC.out.go (HW1.out.st HA.out.2)).edge hj
        rw [← hw3] at j3
        clear j1 j2 hw3
        have hLk : ∃ x, L[k]? = some x := ⟨_, List.getElem?_eq_getElem (by rw [HL.out]; omega)⟩
        obtain ⟨x, hx⟩ := hLk
        have hxb := HOB.out k x hx
        have hx1 := HS.out k hlt
        rw [hx] at hx1
        have HX1 := Lib.hid hx1
        have x0 : 0 ≤ x := hxb.1
        have x1 : x + wt g.es l[k] ≤ 4503603922337792 := by
          have := hxb.2
          have h3 : (k : Int) * 4294967296 ≤ 1048576 * 4294967296 := Int.mul_le_mul_of_nonneg_right (by omega) (by omega)
          omega
        have i0 : 0 ≤ l[k] := hin.1
        have i1 : l[k] < (g.es.length : Int) := hin.2
        have k0 : (0 : Int) ≤ (k : Int) := by omega
        have k1 : (k : Int) < (l.length : Int) := by omega
        have hxx : x' = x := by have := HX.out; rw [hx] at this; cases this; rfl
        subst hxx
        clear hx hx1 hxb hin
        generalize wt g.es l[k] = wv at *
        generalize l[k] = ei at *
        subst hbo hao2
        have i2 : 0 ≤ x' + wv := by omega
        have w5 : IntKind.u64.wrap (x' + wv) = x' + wv := IntWalk.u64_in _ (by omega)
        go_wp2
        go_quiet (fail)
        go_wp2
        go_roundg (l.length - (k + 1))
        case measure => omega
        case rel => exact ⟨k + 1, qn + nq, x' + wv, by omega, by omega, by go_num, rfl, rfl, HX1.out⟩
      · obtain rfl : k = l.length := by omega
        go_wp2
        go_ret2
        exact ⟨by rw [HRW.out, HX.out]; rfl, HW1.out.dr _⟩

theorem walkGo_length (es : List EdgeD) : ∀ (l : List Int) (s : Int) (out O : List Int), walkGo es s out l = some O → O.length = out.length + l.length
  | [], _, out, O, h => by simp [walkGo] at h; subst h; rfl
  | e :: r, s, out, O, h => by
    unfold walkGo at h
    split at h
    · have := walkGo_length es r _ _ O h
      simp at this ⊢
      omega
    · cases h
theorem nodesG_length {g : GD} {s : Int} {l O : List Int} (h : nodesG g s l = some O) : O.length = l.length + 1 := by
  unfold nodesG at h
  split at h
  · have := walkGo_length _ _ _ _ _ h
    simp at this; omega
  · cases h

/-- is l a way from s to t -/
def isB (g : GD) (s t : Int) (l : List Int) : Bool := match nodesG g s l with | some O => ((O[O.length - 1]?).getD 0 == t) | none => false

set_option maxHeartbeats 1000000 in
theorem refIs_any (g : GD) (ao bo : Option Addr) (cap cb : Nat) (s t : Int) (l : List Int) (w : World) (hl : g.es.length ≤ 9223372036854775807) (hll : l.length ≤ 1099511627776) (hc : Cel w ao (flat g.es)) (hd : Cel w bo (l.map encI)) :
    Calls Tryz.prog 51 #[.agg #[.int .i64 g.n, .slice ao g.es.length cap], .int .i64 s, .int .i64 t, .slice bo l.length cb] w fun e w' => e = .returned (.bool (isB g s t l)) ∧ Below w.heap.size w w' := by
  have HC := Lib.hid hc
  have HD := Lib.hid hd
  clear hc hd
  have X1 := Lib.hid (fun W h1 h2 => pNodes_any g ao bo cap cb s l W hl hll h1 h2)
  cases hr : nodesG g s l with
  | none =>
    have HR := Lib.hid (show isB g s t l = false by unfold isB; rw [hr])
    rw [hr] at X1
    generalize isB g s t l = r at *
    go_enter Tryz.func51, Tryz.ntmps51
    go_wp2_with (go_at_call 52; refine (X1.out _ (HC.out.go (by repeat (first | exact Below.refl _ _ | refine Below.al ?_ _ | refine Below.dr ?_ _ | refine Below.drew ?_ | assumption | (refine Below.st ?_ (by assumption))))) (HD.out.go (by repeat (first | exact Below.refl _ _ | refine Below.al ?_ _ | refine Below.dr ?_ _ | refine Below.drew ?_ | assumption | (refine Below.st ?_ (by assumption)))))).mono ?_; rintro e w1 ⟨a1, p1, rfl, hc1, hb1, -⟩; simp only [Option.isSome_none])
    go_ret
    exact ⟨by rw [HR.out]; rfl, by repeat (first | exact Below.refl _ _ | refine Below.al ?_ _ | refine Below.dr ?_ _ | refine Below.drew ?_ | assumption | (refine Below.st ?_ (by assumption)))⟩
  | some O =>
    have hO := nodesG_length hr
    have HR := Lib.hid (show isB g s t l = ((O[O.length - 1]?).getD 0 == t) by unfold isB; rw [hr])
    rw [hr] at X1
    clear hr
    generalize isB g s t l = r at *
    have h1 : 1 ≤ O.length := by omega
    have h2 : O.length ≤ 1099511627777 := by omega
    clear hO
    go_enter Tryz.func51, Tryz.ntmps51
    go_wp2_with fail
    refine (X1.out _ (HC.out.go (by repeat (first | exact Below.refl _ _ | refine Below.al ?_ _ | refine Below.dr ?_ _ | refine Below.drew ?_ | assumption | (refine Below.st ?_ (by assumption))))) (HD.out.go (by repeat (first | exact Below.refl _ _ | refine Below.al ?_ _ | refine Below.dr ?_ _ | refine Below.drew ?_ | assumption | (refine Below.st ?_ (by assumption)))))).mono ?_
    rintro e w1 ⟨a1, p1, rfl, hc1, hb1, -⟩
    have HB1 := Lib.hid hb1
    have hx : ∃ x, O[O.length - 1]? = some x := ⟨_, List.getElem?_eq_getElem (by omega)⟩
    obtain ⟨x, hx⟩ := hx
    have hcell : ∃ b1 o1, a1 = some ⟨b1, o1, none⟩ ∧ w1.cell? ⟨b1, o1 + (O.length - 1), none⟩ = some (.int .i64 x) := by
      obtain ⟨b', o', e', h'⟩ := hc1 (O.length - 1) (.int .i64 x) (by simp [hx])
      exact ⟨b', o', e', h'⟩
    obtain ⟨b1, o1, rfl, hcell⟩ := hcell
    have HX := Lib.hid hx
    clear hx hc1 hb1
    simp only [Option.getD_some, Option.isSome_some]
    go_wp2
    go_ret
    exact ⟨by rw [HR.out, HX.out]; rfl, by have := HB1.out; repeat (first | exact Below.refl _ _ | refine Below.al ?_ _ | refine Below.dr ?_ _ | refine Below.drew ?_ | assumption | (refine Below.st ?_ (by assumption)))⟩

end Go.Proofs.YtkdomobedfhhgaaGreat
end

section
namespace Go.Proofs.YtkdomobedfhhgaaGreat
open Go Go.Proofs Go.RowKit Go.Shelf Go.Proofs.YtkdomobedfhhgaaGreat.Hp Go.Proofs.YtkdomobedfhhgaaGreat.Ch

/-- a way by edges, and the nodes between -/
inductive PE (es : List EdgeD) : Int → List Int → Int → Int → List Int → Prop
  | one {e : Int} {y : EdgeD} (h0 : 0 ≤ e) (h : es[e.toNat]? = some y) : PE es y.f [e] y.t y.w []
  | two {u m v d d' : Int} {l l' I I' : List Int} (h : PE es u l m d I) (h' : PE es m l' v d' I') : PE es u (l ++ l') v (d + d') (I ++ m :: I')
theorem PE.walk {es : List EdgeD} {u v d : Int} {l I : List Int} (h : PE es u l v d I) : ∀ out r, walkGo es u out (l ++ r) = walkGo es v (out ++ I ++ [v]) r := by
  induction h with
  | one h0 h =>
    intro out r
    rename_i e y
    have he : es.getD e.toNat edD = y := by rw [List.getD_eq_getElem?_getD, h]; rfl
    show walkGo es y.f out (e :: r) = _
    rw [walkGo, he, if_pos rfl, List.append_nil]
  | two h h' ih ih' =>
    intro out r
    rw [List.append_assoc, ih, ih']
    congr 1
    simp
theorem PE.mem {es : List EdgeD} {u v d : Int} {l I : List Int} (h : PE es u l v d I) : ∀ e ∈ l, 0 ≤ e ∧ e < (es.length : Int) := by
  induction h with
  | one h0 h =>
    intro e he
    obtain rfl := List.mem_singleton.1 he
    have := (List.getElem?_eq_some_iff.1 h).1
    omega
  | two h h' ih ih' =>
    intro e he
    rcases List.mem_append.1 he with he | he
    · exact ih e he
    · exact ih' e he
theorem PE.sum {es : List EdgeD} {u v d : Int} {l I : List Int} (h : PE es u l v d I) : (l.map (wt es)).sum = d := by
  induction h with
  | one h0 h =>
    rename_i e y
    have he : es.getD e.toNat edD = y := by rw [List.getD_eq_getElem?_getD, h]; rfl
    show (es.getD e.toNat edD).w + 0 = y.w
    rw [he]
    exact Int.add_zero _
  | two h h' ih ih' => rw [List.map_append, List.sum_append, ih, ih']
theorem PE.ne {es : List EdgeD} {u v d : Int} {l I : List Int} (h : PE es u l v d I) : l ≠ [] := by
  induction h with
  | one h0 h => simp
  | two h h' ih ih' => simp [ih]
theorem offF_last (es : List EdgeD) : ∀ (l : List Int) (a : Int), (offF es a l)[l.length]? = some (a + (l.map (wt es)).sum)
  | [], a => by simp [offF]
  | e :: r, a => by
    show (offF es (a + wt es e) r)[r.length]? = _
    rw [offF_last es r]
    simp
    omega
theorem edgesB_of {g : GD} {l : List Int} (hg : rightG g = 0) (h : ∀ e ∈ l, 0 ≤ e ∧ e < (g.es.length : Int)) : edgesB g l = true := by
  unfold edgesB
  rw [hg]
  simp only [beq_self_eq_true, Bool.true_and, Bool.not_eq_true', List.any_eq_false]
  intro e he
  have := h e he
  simp [edgeB]
  omega
theorem PE.weight {g : GD} {u v d : Int} {l I : List Int} (hg : rightG g = 0) (h : PE g.es u l v d I) : weightG g l = some d := by
  unfold weightG
  rw [offG_yes (edgesB_of hg h.mem), Option.map_some, offF_last, h.sum]
  simp
theorem PE.nodes {g : GD} {u v d : Int} {l I : List Int} (hg : rightG g = 0) (h : PE g.es u l v d I) (hu : nodeB g.n u = true) : nodesG g u l = some ([u] ++ I ++ [v]) := by
  rw [nodesG_yes (edgesB_of hg h.mem) hu]
  have := h.walk [u] []
  rw [List.append_nil] at this
  rw [this, walkGo]
theorem PE.is {g : GD} {u v d : Int} {l I : List Int} (hg : rightG g = 0) (h : PE g.es u l v d I) (hu : nodeB g.n u = true) : isB g u v l = true := by
  unfold isB
  rw [h.nodes hg hu]
  simp

/-- what each shortcut stands for -/
theorem made_way {es : List EdgeD} {R : List Int} {S : List SC} (h : ∀ j, j < S.length → madeB es R S j = true) (hw : ∀ x ∈ S, 0 ≤ x.w ∧ x.w ≤ 9007199254740992) : ∀ i, i < S.length →
    ∃ I, PE es (S.getD i scZ).f (unL S i) (S.getD i scZ).t (S.getD i scZ).w I ∧ ∀ m ∈ I, rAt R m < rAt R (S.getD i scZ).f ∧ rAt R m < rAt R (S.getD i scZ).t := by
  have hF := made_fed h
  have hbd : ∀ i, i < S.length → 0 ≤ (S.getD i scZ).w ∧ (S.getD i scZ).w ≤ 9007199254740992 := fun i hi => by
    rw [List.getD_eq_getElem?_getD, List.getElem?_eq_getElem hi]
    exact hw _ (List.getElem_mem hi)
  intro i
  induction i using Nat.strongRecOn with
  | ind i ih =>
    intro hi
    have hm := h i hi
    unfold madeB at hm
    rw [Bool.or_eq_true] at hm
    rcases hm with h1 | h1
    · obtain ⟨h0, y, hy, e1, e2, e3⟩ := edgeF_e h1
      rw [unL_edge h0, ← e1, ← e2, ← e3]
      exact ⟨[], .one h0 hy, by simp⟩
    · obtain ⟨e, a, b, ea, eb, ha, hb, h2, h3, h4, h5, h6, h7⟩ := twoF_e h1
      obtain ⟨I, p1, q1⟩ := ih a ha (by omega)
      obtain ⟨I', p2, q2⟩ := ih b hb (by omega)
      rw [unL_two hF hi (by omega) ea eb ha hb, ← h5, wrapU_in ⟨by have := hbd a (by omega); have := hbd b (by omega); omega, by have := hbd a (by omega); have := hbd b (by omega); omega⟩]
      rw [← h3] at p2 q2
      rw [h2] at p1 q1
      rw [h4] at p2 q2
      refine ⟨I ++ (S.getD a scZ).t :: I', .two p1 p2, fun m hm => ?_⟩
      rcases List.mem_append.1 hm with hm | hm
      · have := q1 m hm
        omega
      · rcases List.mem_cons.1 hm with rfl | hm
        · omega
        · have := q2 m hm
          omega
end Go.Proofs.YtkdomobedfhhgaaGreat
end
