/-
  Walks of package rank: the rank that is thrown, as the document has it.
-/
import Derived.Test.YtfjplphdkfiljaaDoorProg
import Derived.Test.YtfjplphdkfiljaaDoorRkP
import Derived.Test.YtfjplphdkfiljaaDoorSortA
namespace Go.Proofs.YtfjplphdkfiljaaDoor
open Go.Proofs Go.RowKit Go.Shelf

def nxS (s : Int) : Int := IntKind.u64.wrap (IntKind.u64.wrap (s * 6364136223846793005) + 1442695040888963407)
theorem nxS_b (s : Int) : 0 ≤ nxS s ∧ nxS s < 18446744073709551616 := by unfold nxS; rw [IntKind.wrap_u64 (_ + _)]; omega
def kxS (s : Int) (i : Nat) : Nat := ((s / 8589934592).tmod ((i : Int) + 1)).toNat
theorem kxS_eq {s : Int} (h : 0 ≤ s) (i : Nat) : (s / 8589934592).tmod ((i : Int) + 1) = (kxS s i : Int) ∧ kxS s i ≤ i := by
  unfold kxS
  have h1 : 0 ≤ s / 8589934592 := by omega
  rw [Int.tmod_eq_emod_of_nonneg h1]
  have h2 := Int.emod_nonneg (s / 8589934592) (show (i : Int) + 1 ≠ 0 by omega)
  have h3 := Int.emod_lt_of_pos (s / 8589934592) (show 0 < (i : Int) + 1 by omega)
  omega
def shufK : Nat → Int → List Int → List Int
  | 0, _, l => l
  | i + 1, s, l => shufK i (nxS s) (swapL l (i + 1) (kxS (nxS s) (i + 1)))
theorem shufK_step {j : Nat} (h : 1 ≤ j) (s : Int) (l : List Int) : shufK j s l = shufK (j - 1) (nxS s) (swapL l j (kxS (nxS s) j)) := by
  obtain ⟨i, rfl⟩ : ∃ i, j = i + 1 := ⟨j - 1, by omega⟩
  rfl
def shufL (n s : Int) : List Int := shufK ((plainL n).length - 1) s (plainL n)
theorem shufK_length : ∀ (i : Nat) (s : Int) (l : List Int), (shufK i s l).length = l.length
  | 0, _, _ => rfl
  | i + 1, s, l => by rw [shufK, shufK_length i, swapL_length]
theorem plainL_le (n : Int) : (plainL n).length ≤ 4096 := by
  unfold plainL
  split
  · simp
  · rw [rngI_length]; omega

/-- a row of numbers of one's own, of any capacity -/
abbrev RowC (w : World) (base g n cap : Nat) (l : List Int) : Prop := w.ownsRow base 3 1 (.slice (some ⟨g, 0, none⟩) n cap) n (l.map encI)
theorem RowC.len {w : World} {base g n cap : Nat} {l : List Int} (h : RowC w base g n cap l) : l.length = n := by have := h.1; simpa using this
theorem RowC.cell {w : World} {base g n cap : Nat} {l : List Int} (h : RowC w base g n cap l) {i : Nat} {x : Int} (hx : l[i]? = some x) : w.cell? ⟨g, i, none⟩ = some (.int .i64 x) := by
  have hi := (List.getElem?_eq_some_iff.1 hx).1
  rw [h.cellAt i (by have := h.len; omega), List.getElem?_map, hx]
  rfl
theorem RowC.put {w : World} {base g n cap : Nat} {l : List Int} (h : RowC w base g n cap l) (i : Nat) (x : Int) : RowC (w.setCell ⟨g, i, none⟩ (.int .i64 x)) base g n cap (l.set i x) := by
  have := (h.stored i (.int .i64 x)).1
  rw [← List.map_set (f := encI)] at this
  exact this
theorem RowC.base {w : World} {base g n cap : Nat} {l : List Int} (h : RowC w base g n cap l) : base ≤ g ∧ g < w.heap.size := h.lt g rfl
theorem own_some {w : World} {base n : Nat} {v : Value} {xs : List Value} (h : w.ownsRow base 3 1 v n xs) (hn : 0 < n) : ∃ g cap, v = .slice (some ⟨g, 0, none⟩) n cap := by
  rcases h.2 with ⟨_, e⟩ | ⟨g, cap, cur, e, _⟩
  · omega
  · exact ⟨g, cap, e⟩

set_option maxRecDepth 100000 in
set_option maxHeartbeats 2000000 in
theorem refShuffle_any (n s : Int) (w : World) (hs : 0 ≤ s ∧ s < 18446744073709551616) : Calls Tryd.prog 70 #[.int .i64 n, .int .u64 s] w (IntsPost w (shufL n s)) := by
  have HP := Lib.hid (refPlain_any n w)
  have hpl := plainL_le n
  have HR := Lib.hid (show shufL n s = shufK ((plainL n).length - 1) s (plainL n) from rfl)
  generalize shufL n s = r at *
  generalize plainL n = p at *
  rcases Nat.eq_zero_or_pos p.length with h0 | hpos
  · obtain rfl : p = [] := List.eq_nil_of_length_eq_zero h0
    have HRE := Lib.hid (show r = [] from HR.out)
    clear HR
    go_enter Tryd.func70, Tryd.ntmps70
    go_wp2_with (go_at_call 68; refine HP.out.mono ?_; rintro e w1 ⟨v, rfl, HO, HB⟩; obtain ⟨ao, cap, rfl, -⟩ := Cel.of_owns HO.out)
    refine wp_loop_rounds 1 ?_
    rw [rounds_succ]
    go_wp2
    go_ret
    exact ⟨ao, cap, by rw [HRE.out]; rfl, by rw [HRE.out]; exact Cel.nil _ _, HB.out⟩
  · go_enter Tryd.func70, Tryd.ntmps70
    go_wp2_with (go_at_call 68; refine HP.out.mono ?_; rintro e w1 ⟨v, rfl, HO, HB⟩; obtain ⟨g, cap, rfl⟩ := own_some HO.out hpos)
    go_loopg [1, 6] p.length (fun gg v1 vi wr => ∃ (j : Nat) (s' : Int) (c : List Int), j < p.length ∧ j ≤ gg ∧ vi = .int .i64 j ∧ v1 = .int .u64 s' ∧ Aside (r = shufK j s' c) ∧ Aside (RowC wr w.heap.size g p.length cap c) ∧ Aside (Below w.heap.size w wr))
    case atStart => exact ⟨p.length - 1, s, p, by omega, by omega, by rw [show ((p.length - 1 : Nat) : Int) = (p.length : Int) - 1 by omega] <;> go_num, rfl, HR.out, HO.out, HB.out⟩
    case round =>
      clear HO HB
      obtain ⟨j, s', c, hjl, hg, rfl, rfl, HRR, HO, HB⟩ := hrel
      by_cases hi : 1 ≤ j
      · have hi2 : (1 : Int) ≤ (j : Int) := by omega
        have hjl2 : (j : Int) < (p.length : Int) := by omega
        have hj0 : (0 : Int) ≤ (j : Int) := by omega
        have HST := Lib.hid (HRR.out.trans (shufK_step hi s' c))
        have hb1 := (nxS_b s').1
        obtain ⟨A4, A5⟩ := kxS_eq hb1 j
        have A1 : IntKind.u64.wrap (IntKind.u64.wrap (s' * 6364136223846793005) + 1442695040888963407) = nxS s' := rfl
        generalize nxS s' = b at *
        generalize kxS b j = k at *
        have A3 : IntKind.u64.wrap ((j : Int) + 1) = (j : Int) + 1 := by rw [IntKind.wrap_u64]; omega
        have A6 : ((j : Int) + 1 == 0) = false := by rw [beq_eq_false_iff_ne]; omega
        have hk0 : (0 : Int) ≤ (k : Int) := by omega
        have hkl2 : (k : Int) < (p.length : Int) := by omega
        have hlc := HO.out.len
        obtain ⟨x, hx⟩ : ∃ x, c[j]? = some x := ⟨c[j]'(by omega), List.getElem?_eq_getElem _⟩
        obtain ⟨y, hy⟩ : ∃ y, c[k]? = some y := ⟨c[k]'(by omega), List.getElem?_eq_getElem _⟩
        have HSW := Lib.hid (show swapL c j k = (c.set j y).set k x by unfold swapL; rw [getD_of hx, getD_of hy])
        have c1 := HO.out.cell hx
        have c2 := HO.out.cell hy
        have z1 := HO.out.frozenAt j
        have HO1 := HO.out.put j y
        have z2 := HO1.frozenAt k
        have HO2 := Lib.hid (HO1.put k x)
        have hgb : w.heap.size ≤ g := HO.out.base.1
        have HB2 := Lib.hid ((HB.out.setCell (p := ⟨g, j, none⟩) hgb (.int .i64 y)).setCell (p := ⟨g, k, none⟩) hgb (.int .i64 x))
        by_cases hkj : k = j
        · subst hkj
          obtain rfl : x = y := Option.some.inj (hx.symm.trans hy)
          clear hx hy hlc HO1 c2
          go_wp2
          go_roundg (k - 1)
          case measure => omega
          case rel => exact ⟨k - 1, b, swapL c k k, by omega, Nat.le_refl _, by rw [show ((k - 1 : Nat) : Int) = (k : Int) - 1 by omega] <;> go_num, rfl, HST.out, by rw [HSW.out]; exact HO2.out, HB2.out⟩
        · have q1 : (k = j) = False := by simp [hkj]
          have q2 : (j = k) = False := by simp [Ne.symm hkj]
          clear hx hy hlc HO1
          go_wp2
          go_roundg (j - 1)
          case measure => omega
          case rel => exact ⟨j - 1, b, swapL c j k, by omega, Nat.le_refl _, by rw [show ((j - 1 : Nat) : Int) = (j : Int) - 1 by omega] <;> go_num, rfl, HST.out, by rw [HSW.out]; exact HO2.out, HB2.out⟩
      · have hi2 : ¬ (1 : Int) ≤ (j : Int) := by omega
        obtain rfl : j = 0 := by omega
        have HRF := Lib.hid (show r = c from HRR.out)
        obtain ⟨ao8, cap8, e8, hc8⟩ := Cel.of_owns HO.out
        cases e8
        have HC8 := Lib.hid hc8
        have HLC := Lib.hid HO.out.len
        clear hc8
        go_wp2
        go_ret
        exact ⟨_, _, by rw [HRF.out, HLC.out]; rfl, by rw [HRF.out]; exact HC8.out, HB.out⟩

end Go.Proofs.YtfjplphdkfiljaaDoor
