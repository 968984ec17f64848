/-
  Walks: one row behind another (slices.Grow, slices.Concat of two, Join and its reference).
-/
import Derived.Test.YtfjplphdkfiljaaProg
import Derived.Test.YtfjplphdkfiljaaPathN
import Derived.Lib.AppendZeros
import Derived.Laws.OwnMore
namespace Go.Proofs.Ytfjplphdkfiljaa
open Go.Proofs Go.RowKit Go.Shelf

/-- append of a row of one-cell elements, which may be empty -/
theorem run_appAll {P : Program} {w : World} (t ty : TypeId) (base : Nat) (E : TypeId) (z : Value) (bytes : Nat) (hE : Elem P E z 1 bytes) (ht : P.underlying t = some (.slice E))
    (ao : Option Addr) (n cap : Nat) (xs : List Value) (hown : w.ownsRow base E 1 (.slice ao n cap) n xs) (bo : Option Addr) (m c : Nat) (news : List Value) (hnews : Cel w bo news) (h1 : ∀ u ∈ news, u.oneCell' = true)
    (hl : news.length = m ∧ n + m ≤ 9223372036854775807 ∧ (n + m) * bytes ≤ 140737488355328 ∧ base ≤ w.heap.size) :
    ∃ ao' cap' w', (Builtin.append_ #[t, t] ty #[.slice ao n cap, .slice bo m c]).run P w = .ok (.slice ao' (n + m) cap') w' ∧ w'.ownsRow base E 1 (.slice ao' (n + m) cap') (n + m) (xs ++ news) ∧ Below base w w' := by
  obtain ⟨hE, hz1, hz2⟩ := hE
  obtain ⟨i, hi, hz, hsz, hby⟩ := info_parts hE
  obtain ⟨l1, l2, l3, l5⟩ := hl
  by_cases hm : m = 0
  · subst hm
    have hn : news = [] := List.length_eq_zero_iff.1 l1
    subst hn
    refine ⟨ao, cap, w, ?_, by simpa using hown, Below.refl _ _⟩
    rcases hown.2 with ⟨e, rfl⟩ | ⟨g, cap', cur, e, _, _, hnc, _⟩
    · cases e
      cases bo <;> simp [Builtin.append_, run_underlying ht, sizeOf, typeInfo, hi, Builtin.lenOf, Builtin.firstCells, loadCells, loadCellsFrom, storeCells]
    · cases e
      cases bo <;> simp [Builtin.append_, run_underlying ht, sizeOf, typeInfo, hi, Builtin.lenOf, Builtin.firstCells, hnc, storeCells, loadCells, loadCellsFrom]
  · have hh : ∃ u, news[0]? = some u := ⟨_, List.getElem?_eq_getElem (by omega)⟩
    obtain ⟨u, hu⟩ := hh
    obtain ⟨b, o, rfl, _⟩ := hnews 0 u hu
    have hn2 : ∀ j u, news[j]? = some u → w.cell? ((⟨b, o, none⟩ : Addr).add j) = some u := fun j u hj => by
      obtain ⟨b', o', e, h⟩ := hnews j u hj
      cases e
      rw [Addr.add_lit]
      exact h
    obtain ⟨g, cap', w', hr, ho, hg, _, _⟩ := run_append_lies w t ty base E i z 1 bytes ht hi hz hsz hby hz1 hz2 (.slice ao n cap) n xs hown ⟨b, o, none⟩ m c news (by omega) hn2 h1 (by omega) (by unfold maxLen; omega) l3 l5 _ rfl
    exact ⟨_, cap', w', hr, ho, (Below.refl _ w).grown hg l5 (fun k hk => (hown.lt k hk).1)⟩

set_option maxHeartbeats 1000000 in
theorem Grow_any (n : Nat) (w : World) (hn : n ≤ 1099511627776) :
    Calls Try.prog 79 #[.slice none 0 0, .int .i64 n] w fun e w' => ∃ ao cap, e = .returned (.slice ao 0 cap) ∧ w'.ownsRow w.heap.size 3 1 (.slice ao 0 cap) 0 [] ∧ Below w.heap.size w w' := by
  by_cases h0 : n = 0
  · subst h0
    go_enter Try.func79, Try.ntmps79
    go_wp2
    go_ret
    exact ⟨none, 0, rfl, ⟨rfl, .inl ⟨rfl, rfl⟩⟩, Below.refl _ _⟩
  · have hE := elem_int
    obtain ⟨hE, hz1, hz2⟩ := hE
    obtain ⟨i, hi, hz, hsz, hby⟩ := info_parts hE
    have hrz := Lib.hid (fun ty => Lib.run_append_nil_zeros w 30 3 ty 3 i _ .i64 .i64 Try.underlying30 Try.underlying3 hi hz n (by omega) (by omega) (by omega) (by rw [hby]; omega))
    have hGn : n ≤ grownCap w n 0 3 := grownCap_ge w _ _ _
    have hG63 : grownCap w n 0 3 ≤ maxLen := grownCap_le_maxLen w n 0 3 (by unfold maxLen; omega)
    generalize grownCap w n 0 3 = G at *
    obtain ⟨W, hW⟩ : ∃ W, W = w.drew.alloc (.cells (Builtin.zeroCells (Value.int .i64 0).cells n ++ Builtin.zeroCells (Value.int .i64 0).cells (G - n)) 3) := ⟨_, rfl⟩
    rw [← hW] at hrz
    have HO : Aside (W.ownsRow w.heap.size 3 1 (.slice (some ⟨w.heap.size, 0, none⟩) 0 G) 0 []) := by
      refine ⟨rfl, .inr ⟨w.heap.size, G, Builtin.zeroCells (Value.int .i64 0).cells n ++ Builtin.zeroCells (Value.int .i64 0).cells (G - n), rfl, Nat.le_refl _, ?_, Nat.zero_le _, hG63, ?_, ?_⟩⟩
      · rw [hW]; exact (MapKept.heap_alloc w.drew _).1
      · simp [size_zeroCells, Value.cells]; omega
      · simp
    have HB : Aside (Below w.heap.size w W) := by rw [hW]; exact Below.al (Below.of_dr w 1) _
    clear hW hE hz1 hz2 hi hz hsz hby
    have hG9 : (0 : Int) ≤ (G : Int) := by omega
    have hc1 : ((n : Int) > 0) = True := by simp; omega
    have hc2 : ((n : Int) < 0) = False := by simp
    unfold maxLen at hG63
    go_enter Try.func79, Try.ntmps79
    go_wp2_with (at_builtin; refine Lib.wpList_append_run _ rfl _ _ _ _ rfl _ _ rfl rfl _ _ (hrz.out _) ?_)
    go_ret
    exact ⟨_, G, rfl, HO.out, HB.out⟩

set_option maxRecDepth 100000 in
set_option maxHeartbeats 1000000 in
/-- slices.Concat of two rows -/
theorem Concat2_any (bk : Nat) (ao bo : Option Addr) (ca cb cq : Nat) (la lb : List Int) (w : World) (hla : la.length ≤ 1048576) (hlb : lb.length ≤ 1048576)
    (h0 : w.cell? ⟨bk, 0, none⟩ = some (.slice ao la.length ca)) (h1 : w.cell? ⟨bk, 1, none⟩ = some (.slice bo lb.length cb)) (ha : Cel w ao (la.map encI)) (hb : Cel w bo (lb.map encI)) :
    Calls Try.prog 63 #[.slice (some ⟨bk, 0, none⟩) 2 cq] w fun e w' => ∃ ao' cap', e = .returned (.slice ao' (la ++ lb).length cap') ∧ Cel w' ao' ((la ++ lb).map encI) ∧ Below w.heap.size w w' ∧ ∀ x, ao' = some x → w.heap.size ≤ x.block := by
  have HA := Lib.hid ha
  have HB := Lib.hid hb
  have H0 := Lib.hid h0
  have H1 := Lib.hid h1
  clear ha hb
  have HG := Lib.hid (fun W => Grow_any (la.length + lb.length) W (by omega))
  go_enter Try.func63, Try.ntmps63
  go_wp2
  refine wp_loop_rounds 3 ?_
  rw [rounds_succ]
  go_wp2
  rw [rounds_succ]
  go_wp2
  rw [rounds_succ]
  go_wp2_with fail
  refine (HG.out _).mono ?_
  rintro e w1 ⟨a1, c1, rfl, ho1, hb1⟩
  have m0 := cell_later hb1 h0
  have m1 := cell_later hb1 h1
  have HO1 := Lib.hid ho1
  have HB1 := Lib.hid hb1
  clear ho1 hb1 h0 h1
  go_wp2
  refine wp_loop_rounds 3 ?_
  rw [rounds_succ]
  obtain ⟨a2, c2, w2, hr2, ho2, hb2⟩ := run_appAll (P := Try.prog) 30 30 w.heap.size 3 _ 8 elem_int Try.underlying30 a1 0 c1 [] HO1.out ao la.length ca (la.map encI) (HA.out.go HB1.out) (fun u hu => by obtain ⟨x, _, rfl⟩ := List.mem_map.1 hu; rfl) (by refine ⟨by simp, by omega, by omega, HB1.out.size⟩)
  simp only [Nat.zero_add, List.nil_append] at hr2 ho2
  have HB2 := Lib.hid (HB1.out.trans hb2)
  have n0 := cell_later HB2.out H0.out
  have n1 := cell_later HB2.out H1.out
  obtain ⟨a3, c3, w3, hr3, ho3, hb3⟩ := run_appAll (P := Try.prog) 30 30 w.heap.size 3 _ 8 elem_int Try.underlying30 a2 la.length c2 (la.map encI) ho2 bo lb.length cb (lb.map encI) (HB.out.go HB2.out) (fun u hu => by obtain ⟨x, _, rfl⟩ := List.mem_map.1 hu; rfl) (by refine ⟨by simp, by omega, by omega, HB2.out.size⟩)
  have HR2 := Lib.hid hr2
  have HR3 := Lib.hid hr3
  have HO3 := Lib.hid ho3
  have HB3 := Lib.hid (HB2.out.trans hb3)
  clear hr2 ho2 hb2 hr3 ho3 hb3
  go_wp2_with (at_builtin; refine Lib.wpList_append_run _ rfl _ _ _ _ rfl _ _ rfl rfl _ _ HR2.out ?_)
  rw [rounds_succ]
  go_wp2_with (at_builtin; refine Lib.wpList_append_run _ rfl _ _ _ _ rfl _ _ rfl rfl _ _ HR3.out ?_)
  rw [rounds_succ]
  go_wp2
  go_ret
  obtain ⟨ao3, cap3, e3, h3⟩ := Cel.of_owns HO3.out
  cases e3
  refine ⟨a3, c3, ?_, by simpa using h3, HB3.out, ?_⟩
  · simp
  · rintro x rfl
    rcases HO3.out.2 with ⟨e, _⟩ | ⟨g, cap', cur, e, hb, _⟩
    · cases e
    · cases e
      exact hb
end Go.Proofs.Ytfjplphdkfiljaa
