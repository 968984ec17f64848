/-
  Walks: Join of routes; Join of rows; Mod.
-/
import Derived.Test.YtfjplphdkfiljaaProg
import Derived.Test.YtfjplphdkfiljaaConcat
import Derived.Handy
namespace Go.Proofs.Ytfjplphdkfiljaa
open Go.Proofs Go.RowKit Go.Shelf

set_option maxRecDepth 100000 in
set_option maxHeartbeats 1000000 in
theorem Join_any (ao bo : Option Addr) (ca cb : Nat) (la lb : List Int) (wa wb : Int) (w : World) (hla : la.length ≤ 1048576) (hlb : lb.length ≤ 1048576)
    (ha : Cel w ao (la.map encI)) (hb : Cel w bo (lb.map encI)) :
    Calls Try.prog 35 #[.agg #[.slice ao la.length ca, .int .u64 wa], .agg #[.slice bo lb.length cb, .int .u64 wb]] w fun e w' =>
      ∃ ao' cap', e = .returned (.agg #[.slice ao' (la ++ lb).length cap', .int .u64 (IntKind.u64.wrap (wa + wb))]) ∧ Cel w' ao' ((la ++ lb).map encI) ∧ Below w.heap.size w w' := by
  have HA := Lib.hid ha
  have HB := Lib.hid hb
  clear ha hb
  have HC := Lib.hid (fun bk cq W h0 h1 h2 h3 => Concat2_any bk ao bo ca cb cq la lb W hla hlb h0 h1 h2 h3)
  generalize (la ++ lb).length = n at *
  go_enter Try.func35, Try.ntmps35
  have d1 : ¬ (w.heap.size + 1 + 1 = w.heap.size) := by omega
  have d2 : ¬ (w.heap.size = w.heap.size + 1 + 1) := by omega
  go_wp2
  go_region_held3 (fun w' => w'.cell? ⟨w.heap.size, 0, none⟩ = some (.slice ao la.length ca) ∧ w'.cell? ⟨w.heap.size, 1, none⟩ = some (.int .u64 wa) ∧ w'.cell? ⟨w.heap.size + 1, 0, none⟩ = some (.slice bo lb.length cb) ∧ w'.cell? ⟨w.heap.size + 1, 1, none⟩ = some (.int .u64 wb)) (go_keep) (first
    | (go_at_call 63; refine (HC.out _ _ _ (by go_simp) (by go_simp) (HA.out.go (by repeat (first | exact Below.refl _ _ | refine Below.al ?_ _ | refine Below.dr ?_ _ | refine Below.drew ?_ | assumption | (refine Below.st ?_ (by assumption))))) (HB.out.go (by repeat (first | exact Below.refl _ _ | refine Below.al ?_ _ | refine Below.dr ?_ _ | refine Below.drew ?_ | assumption | (refine Below.st ?_ (by assumption)))))).mono ?_; rintro e w1 ⟨a1, c1, rfl, hc1, hb1, hn1⟩
       have q0 := cell_later hb1 (a := ⟨w.heap.size, 0, none⟩) (v := .slice ao la.length ca) (by go_simp)
       have q1 := cell_later hb1 (a := ⟨w.heap.size, 1, none⟩) (v := .int .u64 wa) (by go_simp)
       have q2 := cell_later hb1 (a := ⟨w.heap.size + 1, 0, none⟩) (v := .slice bo lb.length cb) (by go_simp)
       have q3 := cell_later hb1 (a := ⟨w.heap.size + 1, 1, none⟩) (v := .int .u64 wb) (by go_simp)
       have q4 := cell_later hb1 (a := ⟨w.heap.size + 1 + 1, 0, none⟩) (v := .slice none 0 0) (by go_simp)
       have q5 := cell_later hb1 (a := ⟨w.heap.size + 1 + 1, 1, none⟩) (v := .int .u64 0) (by go_simp)
       have z4 : w1.frozen? ⟨w.heap.size + 1 + 1, 0, none⟩ = false := (hb1.frozen (by simp)).trans (by go_simp)
       have z5 : w1.frozen? ⟨w.heap.size + 1 + 1, 1, none⟩ = false := (hb1.frozen (by simp)).trans (by go_simp)))
  go_wp2
  have r0 : ((w1.setCell ⟨w.heap.size + 1 + 1, 0, none⟩ (.slice a1 n c1)).setCell ⟨w.heap.size + 1 + 1, 1, none⟩ (.int .u64 (IntKind.u64.wrap (wa + wb)))).cell? ⟨w.heap.size + 1 + 1, 0, none⟩ = some (.slice a1 n c1) := by
    rw [World.cell?_setCell_other _ _ _ _ (by simp)]; exact World.cell?_setCell_same _ _ _ q4
  have r1 : ((w1.setCell ⟨w.heap.size + 1 + 1, 0, none⟩ (.slice a1 n c1)).setCell ⟨w.heap.size + 1 + 1, 1, none⟩ (.int .u64 (IntKind.u64.wrap (wa + wb)))).cell? ⟨w.heap.size + 1 + 1, 1, none⟩ = some (.int .u64 (IntKind.u64.wrap (wa + wb))) :=
    World.cell?_setCell_same _ _ _ (u := .int .u64 0) (by rw [World.cell?_setCell_other _ _ _ _ (by simp)]; exact q5)
  have hb2 : Below w.heap.size w w1 := by repeat (first | exact Below.refl _ _ | refine Below.al ?_ _ | refine Below.dr ?_ _ | refine Below.drew ?_ | assumption | (refine Below.st ?_ (by assumption)))
  have hs2 := hb1.size
  simp at hs2
  have hb3 : Below w.heap.size w ((w1.setCell ⟨w.heap.size + 1 + 1, 0, none⟩ (.slice a1 n c1)).setCell ⟨w.heap.size + 1 + 1, 1, none⟩ (.int .u64 (IntKind.u64.wrap (wa + wb)))) := (hb2.setCell (by simp; omega) _).setCell (by simp; omega) _
  have hc3 : Cel ((w1.setCell ⟨w.heap.size + 1 + 1, 0, none⟩ (.slice a1 n c1)).setCell ⟨w.heap.size + 1 + 1, 1, none⟩ (.int .u64 (IntKind.u64.wrap (wa + wb)))) a1 ((la ++ lb).map encI) := by
    intro i u hu
    obtain ⟨b, o, e, h⟩ := hc1 i u hu
    have := hn1 _ e
    simp at this
    refine ⟨b, o, e, ?_⟩
    rw [World.cell?_setCell_far _ _ _ _ (by simp; omega), World.cell?_setCell_far _ _ _ _ (by simp; omega)]
    exact h
  have HF := Lib.hid (And.intro hc3 hb3)
  clear hn1 q0 q1 q2 q3 q4 q5 z4 z5 hb1 hb2 hc1 hb3 hc3
  generalize (w1.setCell ⟨w.heap.size + 1 + 1, 0, none⟩ (.slice a1 n c1)).setCell ⟨w.heap.size + 1 + 1, 1, none⟩ (.int .u64 (IntKind.u64.wrap (wa + wb))) = W at *
  refine bodyPost_ret (by simp [results, Try.results35, go_sem, r0, r1]; try rfl) rfl ?_
  exact ⟨a1, c1, rfl, HF.out.1, HF.out.2⟩

/-- one round of an appending loop: the row grows by one -/
theorem take_succ_map {α β : Type} (f : α → β) (l : List α) (k : Nat) (h : k < l.length) : (l.take k).map f ++ [f l[k]] = (l.take (k + 1)).map f := by
  rw [List.take_succ_eq_append_getElem h, List.map_append]; rfl

set_option maxRecDepth 100000 in
set_option maxHeartbeats 1000000 in
theorem refJoin_any (ao bo : Option Addr) (ca cb : Nat) (la lb : List Int) (w : World) (hla : la.length ≤ 1048576) (hlb : lb.length ≤ 1048576)
    (ha : Cel w ao (la.map encI)) (hb : Cel w bo (lb.map encI)) :
    Calls Try.prog 42 #[.slice ao la.length ca, .slice bo lb.length cb] w fun e w' =>
      ∃ ao' cap', e = .returned (.slice ao' (la ++ lb).length cap') ∧ Cel w' ao' ((la ++ lb).map encI) ∧ Below w.heap.size w w' := by
  have HA := Lib.hid ha
  have HB := Lib.hid hb
  clear ha hb
  go_enter Try.func42, Try.ntmps42
  go_wp2
  go_loopg [5, 6] la.length (fun gg v i wr => ∃ (k cap' : Nat) (ao' : Option Addr), k ≤ la.length ∧ la.length - k ≤ gg ∧ i = .int .i64 k ∧ v = .slice ao' k cap' ∧ w.heap.size ≤ wr.heap.size ∧
    Aside (wr.ownsRow w.heap.size 3 1 (.slice ao' k cap') k ((la.take k).map encI) ∧ Below w.heap.size w wr))
  case atStart => exact ⟨0, 0, none, Nat.zero_le _, by omega, rfl, rfl, Nat.le_refl _, ⟨rfl, .inl ⟨rfl, rfl⟩⟩, Below.refl _ _⟩
  case round =>
    obtain ⟨k, cap', ao', hk, hg, rfl, rfl, hsz, HO⟩ := hrel
    by_cases hlt : k < la.length
    · obtain ⟨b, o, hao, f1⟩ := (HA.out.go HO.out.2).at hlt
      have hx := Lib.hid (take_succ_map encI la k hlt)
      generalize la[k] = x at *
      have i0 : (k : Int) < (la.length : Int) := by omega
      have k0 : (0 : Int) ≤ (k : Int) := by omega
      subst hao
      go_wp2_with (at_builtin; go_must ((with_reducible refine wpList_app w.heap.size 3 _ 1 8 elem_int Try.underlying30 (.slice ao' k cap') k _ ⟨wr.heap.size, 0, none⟩ 1 1 ?_ ?_ ?_ (World.ownsRow.alloc HO.out.1 _) ?_ ?_ ?_ ?_); rotate_left 1; (· rfl); (· rfl); (· exact cell_one_new _ _ _); (· exact one_cells rfl); (· exact ⟨rfl, by decide, by omega, by omega, by simp; omega⟩); intro g1 cap1 w1 hown hgrow hbl hat hlt1; (have H1o := Lib.hid hown; have H1b := Lib.hid hbl; have H1g := Lib.hid (And.intro hgrow hat); clear hown hgrow hbl hat)))
      go_roundg (la.length - (k + 1))
      case measure => omega
      case rel =>
        refine ⟨k + 1, cap1, some ⟨g1, 0, none⟩, by omega, by omega, by go_num, rfl, by have := H1b.out.size; simp at this; omega, ⟨?_, HO.out.2.trans ((Below.alloc (Below.refl _ _) hsz _).trans H1b.out)⟩⟩
        rw [← hx.out]
        exact H1o.out
    · obtain rfl : k = la.length := by omega
      have HO1 := Lib.hid (by have := HO.out; rw [List.take_length] at this; exact this : wr.ownsRow w.heap.size 3 1 (.slice ao' la.length cap') la.length (la.map encI) ∧ Below w.heap.size w wr)
      clear HO hk hlt hg
      generalize wr = w1 at *
      go_wp2
      go_loopg [5, 7] lb.length (fun gg v i wr => ∃ (k cap' : Nat) (ao' : Option Addr), k ≤ lb.length ∧ lb.length - k ≤ gg ∧ i = .int .i64 k ∧ v = .slice ao' (la.length + k) cap' ∧ w.heap.size ≤ wr.heap.size ∧
        Aside (wr.ownsRow w.heap.size 3 1 (.slice ao' (la.length + k) cap') (la.length + k) (la.map encI ++ (lb.take k).map encI) ∧ Below w.heap.size w wr))
      case atStart => exact ⟨0, cap', ao', Nat.zero_le _, by omega, rfl, rfl, hsz, by simpa using HO1.out.1, HO1.out.2⟩
      case round =>
        clear HO1 hsz
        obtain ⟨k, cap', ao', hk, hg, rfl, rfl, hsz, HO⟩ := hrel
        by_cases hlt : k < lb.length
        · obtain ⟨b, o, hao, f1⟩ := (HB.out.go HO.out.2).at hlt
          have hx := Lib.hid (take_succ_map encI lb k hlt)
          generalize lb[k] = x at *
          have i0 : (k : Int) < (lb.length : Int) := by omega
          have k0 : (0 : Int) ≤ (k : Int) := by omega
          subst hao
          go_wp2_with (at_builtin; go_must ((with_reducible refine wpList_app w.heap.size 3 _ 1 8 elem_int Try.underlying30 (.slice ao' (la.length + k) cap') (la.length + k) _ ⟨wr.heap.size, 0, none⟩ 1 1 ?_ ?_ ?_ (World.ownsRow.alloc HO.out.1 _) ?_ ?_ ?_ ?_); rotate_left 1; (· rfl); (· rfl); (· exact cell_one_new _ _ _); (· exact one_cells rfl); (· exact ⟨rfl, by decide, by omega, by omega, by simp; omega⟩); intro g1 cap1 w1 hown hgrow hbl hat hlt1; (have H1o := Lib.hid hown; have H1b := Lib.hid hbl; have H1g := Lib.hid (And.intro hgrow hat); clear hown hgrow hbl hat)))
          go_roundg (lb.length - (k + 1))
          case measure => omega
          case rel =>
            refine ⟨k + 1, cap1, some ⟨g1, 0, none⟩, by omega, by omega, by go_num, rfl, by have := H1b.out.size; simp at this; omega, ⟨?_, HO.out.2.trans ((Below.alloc (Below.refl _ _) hsz _).trans H1b.out)⟩⟩
            rw [← hx.out, ← List.append_assoc]
            exact H1o.out
        · obtain rfl : k = lb.length := by omega
          go_wp2
          go_ret
          obtain ⟨ao3, cap3, e3, h3⟩ := Cel.of_owns HO.out.1
          cases e3
          rw [List.take_length] at h3
          exact ⟨ao', cap', by rw [List.length_append]; rfl, by rw [List.map_append]; exact h3, HO.out.2⟩

def modI (a b : Int) : Int := if a.tmod b < 0 then a.tmod b + b else a.tmod b
theorem tmod_bd (a b : Int) (hb : 1 ≤ b) : -b < a.tmod b ∧ a.tmod b < b :=
  ⟨Int.lt_tmod_of_pos a (by omega), Int.tmod_lt_of_pos a (by omega)⟩
theorem modI_bd (a b : Int) (hb : 1 ≤ b) : 0 ≤ modI a b ∧ modI a b < b := by
  have := tmod_bd a b hb
  unfold modI
  split <;> omega

theorem Mod_any (a b : Int) (w : World) (hb : 1 ≤ b ∧ b ≤ 1048576) :
    Calls Try.prog 43 #[.int .i64 a, .int .i64 b] w fun e w' => e = .returned (.int .i64 (modI a b)) ∧ w = w' := by
  have hbd := tmod_bd a b hb.1
  have HR : Aside (modI a b = if a.tmod b < 0 then a.tmod b + b else a.tmod b) := rfl
  generalize modI a b = r at *
  generalize hm : a.tmod b = m at *
  obtain ⟨hb1, hb2⟩ := hb
  have hb0 : (b == 0) = false := by simp; omega
  have hb3 : ¬ b = 0 := by omega
  by_cases h : m < 0
  · have HR2 := Lib.hid (by have := HR.out; rw [if_pos h] at this; exact this : r = m + b)
    go_enter Try.func43, Try.ntmps43
    go_wp2
    go_ret
    exact ⟨by rw [HR2.out]; rfl, rfl⟩
  · have HR2 := Lib.hid (by have := HR.out; rw [if_neg h] at this; exact this : r = m)
    go_enter Try.func43, Try.ntmps43
    go_wp2
    go_ret
    exact ⟨by rw [HR2.out]; rfl, rfl⟩
end Go.Proofs.Ytfjplphdkfiljaa
