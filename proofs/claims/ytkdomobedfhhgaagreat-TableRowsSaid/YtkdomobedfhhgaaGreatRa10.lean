/-
  Walks: table.Center; the reference's Center and Tour (law 25); why a fault.
  Walks: the reference's Center and Tour (law 25); why a fault.
  Walks: two rows, one behind the other, by the reference; a route behind another.
  Walks: are two rows the same (numbers, wide numbers, texts).
  A region whose operations only grow memory, in any order, some of them under a guard, the frame unseen.
  Walk of the law QueryThirds.
  Walk of package query where nothing was built: Dist, Peaks, Meet of none.
  Walk over the reference of upward: Far, Peak.
  The peaks at which both ends meet, told in two ways, in plain Lean.
  Walk over the reference of query: Peaks.
  Walk of package hier: Hierarchy.
  Walk of the law QueryDists.
-/
import Derived.Test.YtkdomobedfhhgaaGreatProg
import Derived.Test.YtkdomobedfhhgaaGreatRa09
import Derived.Test.YtkdomobedfhhgaaGreatRa07
import Derived.Test.YtkdomobedfhhgaaGreatRa04
import Derived.Test.YtkdomobedfhhgaaGreatQb01
import Derived.Test.YtkdomobedfhhgaaGreatQb36
import Derived.Test.YtkdomobedfhhgaaGreatRa08
import Derived.Test.YtkdomobedfhhgaaGreatQb26
set_option linter.unusedVariables false
set_option linter.unusedSimpArgs false
set_option linter.unnecessarySimpa false
section
namespace Go.Proofs.YtkdomobedfhhgaaGreat
open Go Go.Proofs Go.RowKit Go.Shelf Go.Proofs.YtkdomobedfhhgaaGreat.Hp Go.Proofs.YtkdomobedfhhgaaGreat.Ch

end Go.Proofs.YtkdomobedfhhgaaGreat
end

section
namespace Go.Proofs.YtkdomobedfhhgaaGreat
open Go Go.Proofs Go.RowKit Go.Shelf Go.Proofs.YtkdomobedfhhgaaGreat.Hp Go.Proofs.YtkdomobedfhhgaaGreat.Ch

def RowV (es : List EdgeD) (s : Int) (l : List Int) (v : Value) (W : World) : Prop := ∃ ao cap, v = .slice ao l.length cap ∧ Cel W ao ((l.map (distV es s)).map encW)
theorem RowV.go {es : List EdgeD} {s : Int} {l : List Int} {v : Value} {W W' : World} (h : RowV es s l v W) (hb : Below W.heap.size W W') : RowV es s l v W' := let ⟨a, c, h1, h2⟩ := h; ⟨a, c, h1, h2.go hb⟩
theorem why_bad (gv1 gv2 lv : Value) (k : Int) (w : World) (hk : k ≠ 0) : Calls Tryz.prog 44 #[.agg #[gv1, gv2], .int .i64 k, lv] w fun e w' => e = .returned (.int .i64 1) ∧ Below w.heap.size w w' := by
  have hne : (k != 0) = true := by simpa using hk
  clear hk
  go_enter Tryz.func44, Tryz.ntmps44
  go_wp2
  go_ret
  exact ⟨rfl, Below.of_al _ _⟩
set_option maxHeartbeats 1000000 in
theorem why_ok (n : Nat) (ao : Option Addr) (m cap : Nat) (lo : Option Addr) (lc : Nat) (l : List Int) (w : World) (hc : Cel w lo (l.map encI)) (hl : l.length ≤ 1000000) :
    Calls Tryz.prog 44 #[.agg #[.int .i64 (n : Int), .slice ao m cap], .int .i64 0, .slice lo l.length lc] w fun e w' => e = .returned (.int .i64 (if l.any (outB n) then 7 else 0)) ∧ Below w.heap.size w w' := by
  obtain ⟨W, hW⟩ : ∃ W, W = w.alloc (Obj.cells #[.int .i64 (n : Int), .slice ao m cap] 24) := ⟨_, rfl⟩
  have hbw : Below w.heap.size w W := by rw [hW]; exact Below.of_al _ _
  have c0 : W.cell? ⟨w.heap.size, 0, none⟩ = some (.int .i64 (n : Int)) := by rw [hW]; go_simp
  have c1 : W.cell? ⟨w.heap.size, 1, none⟩ = some (.slice ao m cap) := by rw [hW]; go_simp
  have HN := Lib.hid (refNodes_any n (.slice ao m cap) lo lc l W (hc.go hbw) hl)
  have HW := Lib.hid hW
  have HB := Lib.hid hbw
  clear hW hbw hc
  generalize l.any (outB n) = r at *
  go_enter Tryz.func44, Tryz.ntmps44
  go_upto_region 1 with (fail)
  rw [← HW.out]
  cases r with
  | true =>
    go_wp2_with (go_at_call 36; refine HN.out.mono ?_; rintro e w1 ⟨rfl, hb1⟩; (have HB1 := Lib.hid hb1); clear hb1)
    go_ret
    exact ⟨rfl, HB.out.st HB1.out⟩
  | false =>
    go_wp2_with (go_at_call 36; refine HN.out.mono ?_; rintro e w1 ⟨rfl, hb1⟩; (have HB1 := Lib.hid hb1); clear hb1)
    go_ret
    exact ⟨rfl, HB.out.st HB1.out⟩

end Go.Proofs.YtkdomobedfhhgaaGreat
end

section
namespace Go.Proofs.YtkdomobedfhhgaaGreat
open Go.Proofs Go.RowKit Go.Shelf

/-- one round of an appending loop: the row grows by one -/
theorem take_succ_map {α β : Type} (f : α → β) (l : List α) (k : Nat) (h : k < l.length) : (l.take k).map f ++ [f l[k]] = (l.take (k + 1)).map f := by
  rw [List.take_succ_eq_append_getElem h, List.map_append]; rfl

set_option maxRecDepth 100000 in
set_option maxHeartbeats 1000000 in
theorem refJoin_any (ao bo : Option Addr) (ca cb : Nat) (la lb : List Int) (w : World) (hla : la.length ≤ 1048576) (hlb : lb.length ≤ 1048576)
    (ha : Cel w ao (la.map encI)) (hb : Cel w bo (lb.map encI)) :
    Calls Tryz.prog 57 #[.slice ao la.length ca, .slice bo lb.length cb] w fun e w' =>
      ∃ ao' cap', e = .returned (.slice ao' (la ++ lb).length cap') ∧ Cel w' ao' ((la ++ lb).map encI) ∧ Below w.heap.size w w' := by
  have HA := Lib.hid ha
  have HB := Lib.hid hb
  clear ha hb
  go_enter Tryz.func57, Tryz.ntmps57
  go_wp2
  go_loopg [5, 6] la.length (fun gg v i wr => ∃ (k cap' : Nat) (ao' : Option Addr), k ≤ la.length ∧ la.length - k ≤ gg ∧ i = .int .i64 k ∧ v = .slice ao' k cap' ∧ w.heap.size ≤ wr.heap.size ∧
    Aside (wr.ownsRow w.heap.size 3 1 (.slice ao' k cap') k ((la.take k).map encI) ∧ Below w.heap.size w wr))
  case atStart => exact ⟨0, 0, none, Nat.zero_le _, by omega, rfl, rfl, Nat.le_refl _, ⟨rfl, .inl ⟨rfl, rfl⟩⟩, Below.refl _ _⟩
  case round =>
    obtain ⟨k, cap', ao', hk, hg, rfl, rfl, hsz, HO⟩ := hrel
    by_cases hlt : k < la.length
    · obtain ⟨b, o, hao, f1⟩ := (HA.out.go HO.out.2).at hlt
      have hx := Lib.hid (take_succ_map encI la k hlt)
      generalize la[k] = x at *
      have i0 : (k : Int) < (la.length : Int) := by omega
      have k0 : (0 : Int) ≤ (k : Int) := by omega
      subst hao
      go_wp2_with (at_builtin; go_must ((with_reducible refine wpList_app w.heap.size 3 _ 1 8 elem_int Tryz.underlying25 (.slice ao' k cap') k _ ⟨wr.heap.size, 0, none⟩ 1 1 ?_ ?_ ?_ (World.ownsRow.alloc HO.out.1 _) ?_ ?_ ?_ ?_); rotate_left 1; (· rfl); (· rfl); (· exact cell_one_new _ _ _); (· exact one_cells rfl); (· exact ⟨rfl, by decide, by omega, by omega, by simp; omega⟩); intro g1 cap1 w1 hown hgrow hbl hat hlt1; (have H1o := Lib.hid hown; have H1b := Lib.hid hbl; have H1g := Lib.hid (And.intro hgrow hat); clear hown hgrow hbl hat)))
      go_roundg (la.length - (k + 1))
      case measure => omega
      case rel =>
        refine ⟨k + 1, cap1, some ⟨g1, 0, none⟩, by omega, by omega, by go_num, rfl, by have := H1b.out.size; simp at this; omega, ⟨?_, HO.out.2.trans ((Below.alloc (Below.refl _ _) hsz _).trans H1b.out)⟩⟩
        rw [← hx.out]
        exact H1o.out
    · obtain rfl : k = la.length := by omega
      have HO1 := Lib.hid (by have := HO.out; rw [List.take_length] at this; exact this : wr.ownsRow w.heap.size 3 1 (.slice ao' la.length cap') la.length (la.map encI) ∧ Below w.heap.size w wr)
      clear HO hk hlt hg
      generalize wr = w1 at *
      go_wp2
      go_loopg [5, 7] lb.length (fun gg v i wr => ∃ (k cap' : Nat) (ao' : Option Addr), k ≤ lb.length ∧ lb.length - k ≤ gg ∧ i = .int .i64 k ∧ v = .slice ao' (la.length + k) cap' ∧ w.heap.size ≤ wr.heap.size ∧
        Aside (wr.ownsRow w.heap.size 3 1 (.slice ao' (la.length + k) cap') (la.length + k) (la.map encI ++ (lb.take k).map encI) ∧ Below w.heap.size w wr))
      case atStart => exact ⟨0, cap', ao', Nat.zero_le _, by omega, rfl, rfl, hsz, by simpa using HO1.out.1, HO1.out.2⟩
      case round =>
        clear HO1 hsz
        obtain ⟨k, cap', ao', hk, hg, rfl, rfl, hsz, HO⟩ := hrel
        by_cases hlt : k < lb.length
        · obtain ⟨b, o, hao, f1⟩ := (HB.out.go HO.out.2).at hlt
          have hx := Lib.hid (take_succ_map encI lb k hlt)
          generalize lb[k] = x at *
          have i0 : (k : Int) < (lb.length : Int) := by omega
          have k0 : (0 : Int) ≤ (k : Int) := by omega
          subst hao
          go_wp2_with (at_builtin; go_must ((with_reducible refine wpList_app w.heap.size 3 _ 1 8 elem_int Tryz.underlying25 (.slice ao' (la.length + k) cap') (la.length + k) _ ⟨wr.heap.size, 0, none⟩ 1 1 ?_ ?_ ?_ (World.ownsRow.alloc HO.out.1 _) ?_ ?_ ?_ ?_); rotate_left 1; (· rfl); (· rfl); (· exact cell_one_new _ _ _); (· exact one_cells rfl); (· exact ⟨rfl, by decide, by omega, by omega, by simp; omega⟩); intro g1 cap1 w1 hown hgrow hbl hat hlt1; (have H1o := Lib.hid hown; have H1b := Lib.hid hbl; have H1g := Lib.hid (And.intro hgrow hat); clear hown hgrow hbl hat)))
          go_roundg (lb.length - (k + 1))
          case measure => omega
          case rel =>
            refine ⟨k + 1, cap1, some ⟨g1, 0, none⟩, by omega, by omega, by go_num, rfl, by have := H1b.out.size; simp at this; omega, ⟨?_, HO.out.2.trans ((Below.alloc (Below.refl _ _) hsz _).trans H1b.out)⟩⟩
            rw [← hx.out, ← List.append_assoc]
            exact H1o.out
        · obtain rfl : k = lb.length := by omega
          go_wp2
          go_ret
          obtain ⟨ao3, cap3, e3, h3⟩ := Cel.of_owns HO.out.1
          cases e3
          rw [List.take_length] at h3
          exact ⟨ao', cap', by rw [List.length_append]; rfl, by rw [List.map_append]; exact h3, HO.out.2⟩

end Go.Proofs.YtkdomobedfhhgaaGreat
end

section
namespace Go.Proofs.YtkdomobedfhhgaaGreat
open Go.Proofs Go.RowKit Go.Shelf
set_option maxHeartbeats 400000 in
theorem sameInts_any (ao bo : Option Addr) (ca cb : Nat) (la lb : List Int) (w : World) (hla : la.length ≤ 9223372036854775807) (hlb : lb.length ≤ 9223372036854775807)
    (ha : Cel w ao (la.map encI)) (hb : Cel w bo (lb.map encI)) :
    Calls Tryz.prog 23 #[.slice ao la.length ca, .slice bo lb.length cb] w fun e w' => e = .returned (.bool (decide (la = lb))) ∧ ∃ n, w' = w.drewN n := by
  have HA := Lib.hid ha
  have HB := Lib.hid hb
  clear ha hb
  by_cases hl : la.length = lb.length
  · have hn2 : ((la.length : Int) != (lb.length : Int)) = false := by simp; omega
    have HN := Lib.hid hl
    clear hl
    have HD := Lib.hid (fun k (h1 : k < la.length) (h2 : la[k] ≠ lb[k]'(by have := HN.out; omega)) => (decide_eq_false (fun e => h2 (by subst e; rfl)) : decide (la = lb) = false))
    have HE := Lib.hid (fun h : (∀ j (h : j < la.length), la[j] = lb[j]'(by have := HN.out; omega)) => (decide_eq_true (List.ext_getElem HN.out (fun i h1 h2 => h i h1)) : decide (la = lb) = true))
    generalize decide (la = lb) = r at *
    go_enter Tryz.func23, Tryz.ntmps23
    go_wp2
    go_loopg [5] la.length (fun g i wr => ∃ k q : Nat, k ≤ la.length ∧ la.length - k ≤ g ∧ i = .int .i64 k ∧ wr = w.drewN q ∧ Aside (∀ j (h : j < la.length), j < k → la[j] = lb[j]'(by have := HN.out; omega)))
    case atStart => exact ⟨0, 0, Nat.zero_le _, by omega, rfl, rfl, fun j _ h => absurd h (Nat.not_lt_zero _)⟩
    case round =>
      obtain ⟨k, q, hk, hg, rfl, rfl, HF⟩ := hrel
      by_cases hlt : k < la.length
      · have hlt2 : k < lb.length := by have := HN.out; omega
        have hlt3 : (k : Int) < (la.length : Int) := by omega
        have hlt4 : (k : Int) < (lb.length : Int) := by omega
        have hk0 : (0 : Int) ≤ (k : Int) := by omega
        obtain ⟨b1, o1, hao, hc1⟩ := HA.out.at hlt
        obtain ⟨b2, o2, hbo, hc2⟩ := HB.out.at hlt2
        subst hao hbo
        have HD2 := Lib.hid (HD.out k hlt)
        have HM := Lib.hid (fun h : la[k] = lb[k] => (fun j (h1 : j < la.length) (h2 : j < k + 1) => (by
          by_cases e : j = k
          · subst e; exact h
          · exact HF.out j h1 (by omega) : la[j] = lb[j]'(by have := HN.out; omega))))
        generalize la[k] = x at *
        generalize lb[k] = y at *
        go_wp2
        go_quiet (fail)
        go_wp2
        · have ht := ne_i (by assumption)
          go_ret
          exact ⟨by rw [HD2.out ht]; rfl, q + nq, World.drewN_drewN _ _ _⟩
        · have ht := eq_i (by assumption)
          go_roundg (la.length - (k + 1))
          case measure => omega
          case rel => exact ⟨k + 1, q + nq, by omega, by omega, by go_num, rfl, HM.out ht⟩
      · obtain rfl : k = la.length := by omega
        go_wp2
        go_ret
        exact ⟨by rw [HE.out (fun j h => HF.out j h h)]; rfl, q, rfl⟩
  · have hn2 : ((la.length : Int) != (lb.length : Int)) = true := by simp; omega
    have HN := Lib.hid (decide_eq_false (fun e => hl (by subst e; rfl)) : decide (la = lb) = false)
    clear hl
    go_enter Tryz.func23, Tryz.ntmps23
    go_wp2
    go_ret
    exact ⟨by rw [HN.out]; rfl, 0, rfl⟩
set_option maxHeartbeats 400000 in
theorem sameWide_any (ao bo : Option Addr) (ca cb : Nat) (la lb : List Int) (w : World) (hla : la.length ≤ 9223372036854775807) (hlb : lb.length ≤ 9223372036854775807)
    (ha : Cel w ao (la.map encW)) (hb : Cel w bo (lb.map encW)) :
    Calls Tryz.prog 61 #[.slice ao la.length ca, .slice bo lb.length cb] w fun e w' => e = .returned (.bool (decide (la = lb))) ∧ ∃ n, w' = w.drewN n := by
  have HA := Lib.hid ha
  have HB := Lib.hid hb
  clear ha hb
  by_cases hl : la.length = lb.length
  · have hn2 : ((la.length : Int) != (lb.length : Int)) = false := by simp; omega
    have HN := Lib.hid hl
    clear hl
    have HD := Lib.hid (fun k (h1 : k < la.length) (h2 : la[k] ≠ lb[k]'(by have := HN.out; omega)) => (decide_eq_false (fun e => h2 (by subst e; rfl)) : decide (la = lb) = false))
    have HE := Lib.hid (fun h : (∀ j (h : j < la.length), la[j] = lb[j]'(by have := HN.out; omega)) => (decide_eq_true (List.ext_getElem HN.out (fun i h1 h2 => h i h1)) : decide (la = lb) = true))
    generalize decide (la = lb) = r at *
    go_enter Tryz.func61, Tryz.ntmps61
    go_wp2
    go_loopg [5] la.length (fun g i wr => ∃ k q : Nat, k ≤ la.length ∧ la.length - k ≤ g ∧ i = .int .i64 k ∧ wr = w.drewN q ∧ Aside (∀ j (h : j < la.length), j < k → la[j] = lb[j]'(by have := HN.out; omega)))
    case atStart => exact ⟨0, 0, Nat.zero_le _, by omega, rfl, rfl, fun j _ h => absurd h (Nat.not_lt_zero _)⟩
    case round =>
      obtain ⟨k, q, hk, hg, rfl, rfl, HF⟩ := hrel
      by_cases hlt : k < la.length
      · have hlt2 : k < lb.length := by have := HN.out; omega
        have hlt3 : (k : Int) < (la.length : Int) := by omega
        have hlt4 : (k : Int) < (lb.length : Int) := by omega
        have hk0 : (0 : Int) ≤ (k : Int) := by omega
        obtain ⟨b1, o1, hao, hc1⟩ := HA.out.at hlt
        obtain ⟨b2, o2, hbo, hc2⟩ := HB.out.at hlt2
        subst hao hbo
        have HD2 := Lib.hid (HD.out k hlt)
        have HM := Lib.hid (fun h : la[k] = lb[k] => (fun j (h1 : j < la.length) (h2 : j < k + 1) => (by
          by_cases e : j = k
          · subst e; exact h
          · exact HF.out j h1 (by omega) : la[j] = lb[j]'(by have := HN.out; omega))))
        generalize la[k] = x at *
        generalize lb[k] = y at *
        go_wp2
        go_quiet (fail)
        go_wp2
        · have ht := ne_i (by assumption)
          go_ret
          exact ⟨by rw [HD2.out ht]; rfl, q + nq, World.drewN_drewN _ _ _⟩
        · have ht := eq_i (by assumption)
          go_roundg (la.length - (k + 1))
          case measure => omega
          case rel => exact ⟨k + 1, q + nq, by omega, by omega, by go_num, rfl, HM.out ht⟩
      · obtain rfl : k = la.length := by omega
        go_wp2
        go_ret
        exact ⟨by rw [HE.out (fun j h => HF.out j h h)]; rfl, q, rfl⟩
  · have hn2 : ((la.length : Int) != (lb.length : Int)) = true := by simp; omega
    have HN := Lib.hid (decide_eq_false (fun e => hl (by subst e; rfl)) : decide (la = lb) = false)
    clear hl
    go_enter Tryz.func61, Tryz.ntmps61
    go_wp2
    go_ret
    exact ⟨by rw [HN.out]; rfl, 0, rfl⟩
end Go.Proofs.YtkdomobedfhhgaaGreat
end

section
namespace Go.Proofs.YtkdomobedfhhgaaGreat
open Go Go.Proofs Go.RowKit
section
variable {a : Act} {P : Program} {Q : Exit → Act → World → Prop} {w : World}
def growG (l : List Oper) (sz : Nat) : Bool := (List.range l.length).all fun i => match l[i]? with
  | none => false
  | some o => o.dst.isSome && decide (dstAt l i < sz) && (o.after.all fun e => !Region.binds .any e || decide (e.on < i)) && (List.range i).all fun j => decide (dstAt l j ≠ dstAt l i)
theorem growG_at {l : List Oper} {sz : Nat} (h : growG l sz = true) {i : Nat} {o : Oper} (hi : l[i]? = some o) :
    o.dst = some (dstAt l i) ∧ dstAt l i < sz ∧ (∀ e ∈ o.after, Region.binds .any e = true → e.on < i) ∧ ∀ j, j < i → dstAt l j ≠ dstAt l i := by
  have hlt : i < l.length := (List.getElem?_eq_some_iff.1 hi).1
  unfold growG at h
  have h1 := List.all_eq_true.1 h i (List.mem_range.2 hlt)
  rw [hi] at h1
  clear h
  simp only [Bool.and_eq_true] at h1
  obtain ⟨⟨⟨h2, h4⟩, h5⟩, h6⟩ := h1
  refine ⟨?_, of_decide_eq_true h4, fun e he hb => ?_, fun j hj => ?_⟩
  · obtain ⟨d, hd⟩ := Option.isSome_iff_exists.1 h2
    unfold dstAt
    rw [hi]
    simp [hd]
  · have h7 := Array.all_eq_true_iff_forall_mem.1 h5 e he
    rw [hb] at h7
    simpa using h7
  · have h7 := List.all_eq_true.1 h6 j (List.mem_range.2 hj)
    exact of_decide_eq_true h7
/-- an operation is wanted, by its guard -/
abbrev Goes (l : List Oper) (act : Act) (o : Oper) (b : Bool) : Prop := Region.wanted o (yielded l.toArray act.tmps) = b
theorem goes_free {l : List Oper} {act : Act} {o : Oper} (h : o.guard = none) : Goes l act o true := by unfold Goes Region.wanted; rw [h]
theorem yielded_of {l : List Oper} {act : Act} {j t : Nat} {b : Bool} (hd : ((l[j]?).bind (·.dst)) = some t) (hv : act.tmps.getD t undef = .bool b) : yielded l.toArray act.tmps j = some b := by
  have ht : act.tmps[t]? = some (.bool b) := by
    rw [Array.getD_eq_getD_getElem?] at hv
    cases e : act.tmps[t]? with
    | none => rw [e] at hv; cases hv
    | some v => rw [e] at hv; exact congrArg some hv
  unfold yielded
  have : ((l.toArray[j]?).bind (·.dst)) = some t := by rw [List.getElem?_toArray]; exact hd
  rw [this]
  simp [ht]
theorem goes_yes {l : List Oper} {act : Act} {o : Oper} (j : Nat) (b : Bool) {t : Nat} (h : o.guard = some (j, b)) (hd : ((l[j]?).bind (·.dst)) = some t) (hv : act.tmps.getD t undef = .bool b) : Goes l act o true := by
  unfold Goes Region.wanted
  rw [h]
  simp only [yielded_of hd hv]
  simp
def growJ (l : List Oper) (a : Act) (w : World) (R : Nat → Value → World → Prop) (listed : Array Bool) (a' : Act) (w' : World) : Prop :=
  listed.size = l.length ∧ (∀ i o, l[i]? = some o → listed.getD i false = true → ∀ e ∈ o.after, Region.binds .any e = true → listed.getD e.on false = true) ∧
    ∃ (vs : Nat → Value), a' = puts a (dstAt l) vs l.length ∧ Below w.heap.size w w' ∧ (∀ i, i < l.length → listed.getD i false = true → R i (vs i) w')
theorem wp_region_grows_g {id : Nat} {l : List Oper} (n : Nat) (hln : l.length = n) (R : Nat → Value → World → Prop) (hm : P.follows .mixedOrders = true) (hB : growG l a.tmps.size = true)
    (hmono : ∀ i v w w', Below w.heap.size w w' → R i v w → R i v w')
    (hop : opsAll (fun i o => ∀ (act : Act) w', Below w.heap.size w w' → (∀ j, depB l i j = true → R j (act.tmps.getD (dstAt l j) undef) w') → (∀ t, offB l n t = true → act.tmps.getD t undef = a.tmps.getD t undef) →
      ∀ K : Act → World → Prop, (∀ v w'', Below w'.heap.size w' w'' → R i v w'' → K (act.put o.dst v) w'') → (Goes l act o true ∧ o.wp P act w' K Q) ∨ (Goes l act o false ∧ K (act.put o.dst undef) w')) 0 l)
    (hend : ∀ (vs : Nat → Value) w', Below w.heap.size w w' → (∀ i, i < n → R i (vs i) w') → Q .normal (puts a (dstAt l) vs n) w') : (Code.region id l.toArray true).wp P Q a w := by
  subst hln
  have hg := fun i (hi : i < l.length) => growG_at hB (List.getElem?_eq_getElem hi)
  have hD : ∀ i, i < l.length → dstAt l i < a.tmps.size := fun i hi => (hg i hi).2.1
  have hinj : ∀ i j, i < l.length → j < l.length → dstAt l i = dstAt l j → i = j := fun i j hi hj e => by
    rcases Nat.lt_trichotomy i j with k | k | k
    · exact absurd e ((hg j hj).2.2.2 i k)
    · exact k
    · exact absurd e.symm ((hg i hi).2.2.2 j k)
  have hord : ∀ i o, l[i]? = some o → ∀ e ∈ o.after, Region.binds .any e = true → e.on < i := fun i o hi => (growG_at hB hi).2.2.1
  have hon : ∀ vs j, j < l.length → (puts a (dstAt l) vs l.length).tmps.getD (dstAt l j) undef = vs j := fun vs j hj => by
    rw [Array.getD_eq_getD_getElem?, puts_on hinj hj (hD j hj)]
    rfl
  have hoff : ∀ vs t, offB l l.length t = true → (puts a (dstAt l) vs l.length).tmps.getD t undef = a.tmps.getD t undef := fun vs t ht => by
    rw [Array.getD_eq_getD_getElem?, Array.getD_eq_getD_getElem?, puts_off (fun i hi e => by
      have := List.all_eq_true.1 ht i (List.mem_range.2 hi)
      simp [e] at this)]
  have ha := puts_of (a := a) (a' := a) hinj rfl rfl hD (fun _ _ => rfl)
  refine wp_region_inv hm (growJ l a w R) ?_ ?_ ?_
  · have hz : ∀ i, ¬ (Array.replicate l.toArray.size false).getD i false = true := fun i h => by
      rw [getD_replicate_false] at h
      cases h
    exact ⟨by simp, fun i o _ h => absurd h (hz i), _, ha, (Below.refl _ w).drew, fun i _ h => absurd h (hz i)⟩
  · rintro listed a' w' i ⟨hsz, hcl, vs, rfl, hb, hR⟩ hi
    obtain ⟨h1, o, h2, h3⟩ := mem_ready.1 hi
    have h2' : l[i]? = some o := by simpa using h2
    have hlt : i < l.length := (List.getElem?_eq_some_iff.1 h2').1
    have hun : ∀ j, listed.getD j false = true → j ≠ i := by
      rintro j hj rfl
      have := getD_both h1
      rw [this] at hj
      cases hj
    have hd := (growG_at hB h2').1
    have hvi : ∀ v, updV vs i v i = v := fun v => if_pos rfl
    have hvn : ∀ v j, j ≠ i → updV vs i v j = vs j := fun v j hj => if_neg hj
    have hset : ∀ j, (listed.setIfInBounds i true).getD j false = true → j = i ∨ (j ≠ i ∧ listed.getD j false = true) := fun j hl => by
      by_cases e : j = i
      · exact .inl e
      · rw [getD_set_ne false (fun h => e h.symm)] at hl
        exact .inr ⟨e, hl⟩
    have hkeep : ∀ j, listed.getD j false = true → (listed.setIfInBounds i true).getD j false = true := fun j hl => by
      rw [getD_set_ne false (fun h => hun j hl h.symm)]
      exact hl
    have hK : ∀ (v : Value) (w'' : World), Below w'.heap.size w' w'' → R i v w'' → growJ l a w R (listed.setIfInBounds i true) ((puts a (dstAt l) vs l.length).put o.dst v) w'' := by
      intro v w'' hb2 hr
      refine ⟨by simp [hsz], ?_, updV vs i v, by rw [hd]; exact puts_put hinj hD hlt, hb.st hb2, ?_⟩
      · intro j oj hj hl e he hb'
        rcases hset j hl with rfl | ⟨hji, hl'⟩
        · rw [h2'] at hj
          cases hj
          exact hkeep _ (h3 e he hb')
        · exact hkeep _ (hcl j oj hj hl' e he hb')
      · intro j hj hl
        rcases hset j hl with rfl | ⟨hji, hl'⟩
        · rw [hvi]
          exact hr
        · rw [hvn v j hji]
          exact hmono _ _ _ _ hb2 (hR j hj hl')
    have hop' := opsAll_get l 0 hop i o h2'
    rw [Nat.zero_add] at hop'
    have hdeps : ∀ j, depB l i j = true → R j ((puts a (dstAt l) vs l.length).tmps.getD (dstAt l j) undef) w' := by
      intro j hj
      unfold depB at hj
      simp only [h2'] at hj
      obtain ⟨e, he, k2⟩ := List.any_eq_true.1 hj
      simp only [Bool.and_eq_true, beq_iff_eq] at k2
      have h5 := hord i o h2' e (Array.mem_toList_iff.1 he) k2.1
      have h4 := h3 e (Array.mem_toList_iff.1 he) k2.1
      rw [k2.2] at h5 h4
      rw [hon vs j (by omega)]
      exact hR j (by omega) h4
    unfold wpOp
    simp only [h2]
    rcases hop' _ w' hb hdeps (fun t ht => hoff vs t ht) (growJ l a w R (listed.setIfInBounds i true)) hK with ⟨hw, h⟩ | ⟨hw, h⟩
    · rw [if_pos hw]
      exact .inl h
    · rw [if_neg (by rw [show Region.wanted o (yielded l.toArray (puts a (dstAt l) vs l.length).tmps) = false from hw]; simp)]
      exact h
  · rintro listed a' w' ⟨hsz, hcl, vs, rfl, hb, hR⟩ hr
    have hall : ∀ d i, i = d → i < l.length → listed.getD i false = true := by
      intro d
      induction d using Nat.strongRecOn with
      | _ d ih =>
        rintro i rfl hi
        cases hl : listed.getD i false with
        | true => rfl
        | false =>
          have hin : i ∈ Region.ready .any l.toArray listed := by
            refine mem_ready.2 ⟨Go.getD_in (by omega) hl, l[i], by simp [hi], fun e he hb' => ?_⟩
            have h6 := hord i l[i] (List.getElem?_eq_getElem hi) e he hb'
            exact ih e.on h6 e.on rfl (by omega)
          rw [hr] at hin
          cases hin
    exact hend vs w' hb (fun i hi => hR i hi (hall i i rfl hi))
end
end Go.Proofs.YtkdomobedfhhgaaGreat
end

section
namespace Go.Proofs.YtkdomobedfhhgaaGreat
open Go Go.Proofs Go.RowKit Go.Shelf Go.Proofs.YtkdomobedfhhgaaGreat.Hp Go.Proofs.YtkdomobedfhhgaaGreat.Ch

def lightG (n : Int) (es : List EdgeD) : Bool := (decide (n ≤ 100) || decide (4096 < n)) && decide ((es.length : Int) ≤ 300)
set_option maxHeartbeats 1000000 in
theorem light05_any (n : Int) (es : List EdgeD) (ao : Option Addr) (cap : Nat) (w : World) :
    Calls Tryz.prog 69 #[.agg #[.int .i64 n, .slice ao es.length cap]] w fun e w' => e = .returned (.bool (lightG n es)) ∧ Below w.heap.size w w' := by
  unfold lightG
  by_cases h1 : n ≤ 100
  · rw [decide_eq_true h1, Bool.true_or, Bool.true_and]
    have g1 : decide (n ≤ 100) = true := decide_eq_true h1
    go_enter Tryz.func69, Tryz.ntmps69
    go_wp2
    go_ret
    exact ⟨rfl, Below.of_al _ _⟩
  · rw [decide_eq_false h1, Bool.false_or]
    have g1 : decide (n ≤ 100) = false := decide_eq_false h1
    by_cases h2 : 4096 < n
    · rw [decide_eq_true h2, Bool.true_and]
      have g2 : decide (n > 4096) = true := decide_eq_true h2
      go_enter Tryz.func69, Tryz.ntmps69
      go_wp2
      go_ret
      exact ⟨rfl, Below.of_al _ _⟩
    · rw [decide_eq_false h2, Bool.false_and]
      have g2 : decide (n > 4096) = false := decide_eq_false h2
      go_enter Tryz.func69, Tryz.ntmps69
      go_wp2
      go_ret
      exact ⟨rfl, Below.of_al _ _⟩

def light20 (n : Int) (es : List EdgeD) : Bool := lightG n es && (decide (n ≤ 12) || decide (4096 < n)) && decide ((es.length : Int) ≤ 40)
theorem light20_small {g : GD} (h : light20 g.n g.es = true) : (rightG g = 0 → g.n ≤ 12) ∧ g.es.length ≤ 40 := by
  unfold light20 at h
  simp only [Bool.and_eq_true, Bool.or_eq_true, decide_eq_true_eq] at h
  refine ⟨fun hr => ?_, by omega⟩
  have := right_n hr
  omega
set_option maxHeartbeats 1000000 in
theorem light20_any (n : Int) (es : List EdgeD) (ao : Option Addr) (cap : Nat) (w : World) :
    Calls Tryz.prog 14 #[.agg #[.int .i64 n, .slice ao es.length cap]] w fun e w' => e = .returned (.bool (light20 n es)) ∧ Below w.heap.size w w' := by
  have HL := Lib.hid (light05_any n es ao cap)
  unfold light20
  obtain ⟨W, hW⟩ : ∃ W, W = w.alloc (Obj.cells #[.int .i64 n, .slice ao es.length cap] 24) := ⟨_, rfl⟩
  have hbw : Below w.heap.size w W := by rw [hW]; exact Below.of_al _ _
  have c0 : W.cell? ⟨w.heap.size, 0, none⟩ = some (.int .i64 n) := by rw [hW]; go_simp
  have c1 : W.cell? ⟨w.heap.size, 1, none⟩ = some (.slice ao es.length cap) := by rw [hW]; go_simp
  have HB := Lib.hid hbw
  have HW := Lib.hid hW
  clear hbw hW
  cases hb : lightG n es with
  | false =>
    rw [hb] at HL
    clear hb
    go_enter Tryz.func14, Tryz.ntmps14
    go_upto_region 1 with (fail)
    rw [← HW.out]
    go_wp2_with (go_at_call 69; refine (HL.out _).mono ?_; rintro e w1 ⟨rfl, hb1⟩; (have HB1 := Lib.hid hb1); clear hb1)
    go_ret
    exact ⟨by simp, HB.out.st HB1.out⟩
  | true =>
    rw [hb] at HL
    clear hb
    by_cases h1 : n ≤ 12
    · go_enter Tryz.func14, Tryz.ntmps14
      go_upto_region 1 with (fail)
      rw [← HW.out]
      go_wp2_with (go_at_call 69; refine (HL.out _).mono ?_; rintro e w1 ⟨rfl, hb1⟩; (have d0 := cell_later hb1 c0); (have d1 := cell_later hb1 c1); (have HB1 := Lib.hid hb1); clear hb1)
      go_ret
      exact ⟨by simp [h1], HB.out.st HB1.out⟩
    · by_cases h2 : 4096 < n
      · go_enter Tryz.func14, Tryz.ntmps14
        go_upto_region 1 with (fail)
        rw [← HW.out]
        go_wp2_with (go_at_call 69; refine (HL.out _).mono ?_; rintro e w1 ⟨rfl, hb1⟩; (have d0 := cell_later hb1 c0); (have d1 := cell_later hb1 c1); (have HB1 := Lib.hid hb1); clear hb1)
        go_ret
        exact ⟨by simp [h1, h2], HB.out.st HB1.out⟩
      · go_enter Tryz.func14, Tryz.ntmps14
        go_upto_region 1 with (fail)
        rw [← HW.out]
        go_wp2_with (go_at_call 69; refine (HL.out _).mono ?_; rintro e w1 ⟨rfl, hb1⟩; (have d0 := cell_later hb1 c0); (have d1 := cell_later hb1 c1); (have HB1 := Lib.hid hb1); clear hb1)
        go_ret
        exact ⟨by simp [h1, h2]; intro h; omega, HB.out.st HB1.out⟩
theorem BltPost.two {g : GD} {k : Int} {w w' : World} {e : Ending} (h : BltPost g k w e w') : ∃ p, e = .returned (.tuple #[.pointer p, .int .i64 k]) ∧ Below w.heap.size w w' ∧ (k = 0 → rightG g = 0 → g.n ≤ 12 → ∃ hb R S ro, p = some ⟨hb, 0, none⟩ ∧ BH w' hb g.n.toNat g.es R S ro) := by
  have h0 := h
  obtain ⟨h1 | h1, h2⟩ := h
  · obtain ⟨rfl, hb, R, S, ro, e, hm, ho⟩ := h1
    exact ⟨_, e, h2, fun _ hg hn => by
      have := right_n hg
      exact ⟨hb, R, S, ro, rfl, ⟨hm, ho, by omega, by omega⟩⟩⟩
  · exact ⟨none, h1.2, h2, fun hk => absurd hk h1.1⟩
end Go.Proofs.YtkdomobedfhhgaaGreat
end

section
namespace Go.Proofs.YtkdomobedfhhgaaGreat
open Go Go.Proofs Go.RowKit Go.Shelf Go.Proofs.YtkdomobedfhhgaaGreat.Hp Go.Proofs.YtkdomobedfhhgaaGreat.Ch

end Go.Proofs.YtkdomobedfhhgaaGreat
end

section
namespace Go.Proofs.YtkdomobedfhhgaaGreat
open Go Go.Proofs Go.RowKit Go.Shelf Go.Proofs.YtkdomobedfhhgaaGreat.Ch

theorem AllPost.st {es : List EdgeD} {n : Nat} {s : Int} {back : Bool} {no : List Int} {w W w' : World} {e : Ending} (hb : Below w.heap.size w W) (h : AllPost es n s back no W e w') : AllPost es n s back no w e w' := by
  obtain ⟨b, d, h1, h2, h3, h4, h5⟩ := h
  have := hb.size
  exact ⟨b, d, h1, h2, hb.st h3, by omega, h5⟩
end Go.Proofs.YtkdomobedfhhgaaGreat
end

section
namespace Go.Proofs.YtkdomobedfhhgaaGreat
open Go.Proofs.YtkdomobedfhhgaaGreat.Ch
end Go.Proofs.YtkdomobedfhhgaaGreat
end

section
namespace Go.Proofs.YtkdomobedfhhgaaGreat
open Go Go.Proofs Go.RowKit Go.Shelf Go.Proofs.YtkdomobedfhhgaaGreat.Ch

section
variable {A : Int → Int → Int → Prop} {r : Int → Int} {s t d : Int} {k : Nat} {l : List Int}
end
end Go.Proofs.YtkdomobedfhhgaaGreat
end

section
namespace Go.Proofs.YtkdomobedfhhgaaGreat
open Go Go.Proofs Go.RowKit Go.Shelf Go.Proofs.YtkdomobedfhhgaaGreat.Hp Go.Proofs.YtkdomobedfhhgaaGreat.Ch

end Go.Proofs.YtkdomobedfhhgaaGreat
end

section
namespace Go.Proofs.YtkdomobedfhhgaaGreat
open Go Go.Proofs Go.RowKit Go.Shelf Go.Proofs.YtkdomobedfhhgaaGreat.Hp Go.Proofs.YtkdomobedfhhgaaGreat.Ch

theorem BltPost.nil {g : GD} {k : Int} {w w' : World} {e : Ending} (h : BltPost g k w e w') (hk : k ≠ 0) : e = .returned (.tuple #[.pointer none, .int .i64 k]) ∧ Below w.heap.size w w' := by
  obtain ⟨h1 | h1, h2⟩ := h
  · exact absurd h1.1 hk
  · exact ⟨h1.2, h2⟩
theorem build_right {g : GD} {h s : Int} {r : List Int} (k : buildB g h s r = 0) : rightG g = 0 := by
  unfold buildB at k
  split at k
  · cases k
  · rename_i hn
    exact Decidable.byContradiction fun e => hn (.inl e)
/-- the boxes of the arguments -/
structure QB1 (W : World) (b : Nat) (g : GD) (ao : Option Addr) (cap : Nat) (h1 s1 : Int) (ro : Option Addr) (r : List Int) (rc : Nat) : Prop where
  g0 : W.cell? ⟨b, 0, none⟩ = some (.int .i64 g.n)
  g1 : W.cell? ⟨b, 1, none⟩ = some (.slice ao g.es.length cap)
  a0 : W.cell? ⟨b + 1, 0, none⟩ = some (.int .i64 h1)
  a1 : W.cell? ⟨b + 1, 1, none⟩ = some (.int .i64 s1)
  a2 : W.cell? ⟨b + 1, 2, none⟩ = some (.slice ro r.length rc)
theorem QB1.go {W W' : World} {b : Nat} {g : GD} {ao : Option Addr} {cap : Nat} {h1 s1 : Int} {ro : Option Addr} {r : List Int} {rc : Nat} (h : QB1 W b g ao cap h1 s1 ro r rc) (hz : Below W.heap.size W W') : QB1 W' b g ao cap h1 s1 ro r rc :=
  ⟨cell_later hz h.g0, cell_later hz h.g1, cell_later hz h.a0, cell_later hz h.a1, cell_later hz h.a2⟩
end Go.Proofs.YtkdomobedfhhgaaGreat
end
