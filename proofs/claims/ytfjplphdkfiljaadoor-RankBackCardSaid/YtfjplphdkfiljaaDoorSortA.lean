/-
  Walks of the library's stable sort, at rows of numbers: the comparing of keys, and the sort by insertion.
-/
import Derived.Test.YtfjplphdkfiljaaDoorProg
import Derived.Test.YtfjplphdkfiljaaDoorRkA
import Derived.Test.YtfjplphdkfiljaaDoorGpE
import Derived.Test.YtfjplphdkfiljaaDoorGtA
import Derived.Test.YtfjplphdkfiljaaDoorSortSpec
namespace Go.Proofs.YtfjplphdkfiljaaDoor
open Go.Proofs Go.RowKit Go.Shelf

def cmpI (a b : Int) : Int := if a < b then -1 else if b < a then 1 else 0

theorem isNaN_any (x : Int) (w : World) : Calls Tryd.prog 133 #[.int .u64 x] w fun e w' => e = .returned (.bool false) ∧ w' = w := by
  go_enter Tryd.func133, Tryd.ntmps133
  go_wp2
  go_ret
  exact ⟨by simp, rfl⟩
theorem Compare_any (x y : Int) (w : World) : Calls Tryd.prog 107 #[.int .u64 x, .int .u64 y] w fun e w' => e = .returned (.int .i64 (cmpI x y)) ∧ w' = w := by
  have HN := Lib.hid isNaN_any
  unfold cmpI
  by_cases h1 : x < y
  · rw [if_pos h1]
    go_enter Tryd.func107, Tryd.ntmps107
    go_wp2_with (go_at_call 133; refine (HN.out _ _).mono ?_; rintro e w1 ⟨rfl, rfl⟩)
    go_ret
    exact ⟨rfl, rfl⟩
  · rw [if_neg h1]
    by_cases h2 : y < x
    · rw [if_pos h2]
      go_enter Tryd.func107, Tryd.ntmps107
      go_wp2_with (go_at_call 133; refine (HN.out _ _).mono ?_; rintro e w1 ⟨rfl, rfl⟩)
      go_ret
      exact ⟨rfl, rfl⟩
    · rw [if_neg h2]
      go_enter Tryd.func107, Tryd.ntmps107
      go_wp2_with (go_at_call 133; refine (HN.out _ _).mono ?_; rintro e w1 ⟨rfl, rfl⟩)
      go_ret
      exact ⟨rfl, rfl⟩

/-- the keys, behind a box -/
def KeyB (w : World) (K : Nat) (keys : List Int) : Prop := ∃ ko kc, w.cell? ⟨K, 0, none⟩ = some (.slice ko keys.length kc) ∧ Cel w ko (keys.map encW)
theorem KeyB.go {w w' : World} {K : Nat} {keys : List Int} (h : KeyB w K keys) (hb : Below w.heap.size w w') : KeyB w' K keys := by
  obtain ⟨ko, kc, h1, h2⟩ := h
  exact ⟨ko, kc, cell_later hb h1, h2.go hb⟩

theorem By1_any (keys : List Int) (K : Nat) (x y : Nat) (W : World) (hx : x < keys.length) (hy : y < keys.length) (hk : KeyB W K keys) :
    Calls Tryd.prog 106 (#[.int .i64 x, .int .i64 y] ++ #[.pointer (some ⟨K, 0, none⟩)]) W fun e w' => e = .returned (.int .i64 (cmpI keys[x] keys[y])) ∧ Below W.heap.size W w' := by
  obtain ⟨ko, kc, h1, h2⟩ := hk
  obtain ⟨b, o, rfl, c1⟩ := h2.at hx
  obtain ⟨b', o', e, c2⟩ := h2.at hy
  cases e
  have HC := Lib.hid (fun W => Compare_any keys[x] keys[y] W)
  have hx2 : (x : Int) < (keys.length : Int) := by omega
  have hy2 : (y : Int) < (keys.length : Int) := by omega
  have hx0 : (0 : Int) ≤ (x : Int) := by omega
  have hy0 : (0 : Int) ≤ (y : Int) := by omega
  clear h2
  generalize cmpI keys[x] keys[y] = r at *
  generalize keys[x] = kx at *
  generalize keys[y] = ky at *
  have K1 := fun p => cell_ext p h1
  have K2 := fun p => cell_ext p c1
  have K3 := fun p => cell_ext p c2
  go_enter Tryd.func106, Tryd.ntmps106
  go_wp2
  refine wp_region_ext (by kernel_rfl) (by kernel_rfl) ?_
  repeat (go_big_quiet_step ((go_at_call 107; exact Calls.ext_of ((HC.out _).mono fun _ _ ⟨he, hw⟩ => ⟨he, hw ▸ Below.refl _ _⟩))))
  refine wpQuiet_nil ?_
  rintro _ ⟨p1, rfl⟩
  have HB1 := Lib.hid (below_ext W p1)
  generalize ext W p1 = w1 at HB1 ⊢
  go_wp2
  go_ret
  exact ⟨rfl, HB1.out⟩

/-- a row of numbers of one's own -/
abbrev RowI (w : World) (base g N : Nat) (l : List Int) : Prop := w.ownsRow base 3 1 (.slice (some ⟨g, 0, none⟩) N N) N (l.map encI)
theorem RowI.len {w : World} {base g N : Nat} {l : List Int} (h : RowI w base g N l) : l.length = N := by have := h.1; simpa using this
theorem RowI.cell {w : World} {base g N : Nat} {l : List Int} (h : RowI w base g N l) {i : Nat} {x : Int} (hx : l[i]? = some x) : w.cell? ⟨g, i, none⟩ = some (.int .i64 x) := by
  have hi := (List.getElem?_eq_some_iff.1 hx).1
  rw [h.cellAt i (by have := h.len; omega), List.getElem?_map, hx]
  rfl
theorem RowI.put {w : World} {base g N : Nat} {l : List Int} (h : RowI w base g N l) (i : Nat) (x : Int) : RowI (w.setCell ⟨g, i, none⟩ (.int .i64 x)) base g N (l.set i x) := by
  have := (h.stored i (.int .i64 x)).1
  rw [← List.map_set (f := encI)] at this
  exact this
theorem RowI.base {w : World} {base g N : Nat} {l : List Int} (h : RowI w base g N l) : base ≤ g ∧ g < w.heap.size := h.lt g rfl

/-- how a closure compares -/
def CmpOn (F : Nat) (cb : Array Value) (key : Int → Int) (M base : Nat) (w0 : World) : Prop :=
  ∀ W x y, Below base w0 W → 0 ≤ x → x < (M : Int) → 0 ≤ y → y < (M : Int) → Calls Tryd.prog F (#[.int .i64 x, .int .i64 y] ++ cb) W fun e w' => e = .returned (.int .i64 (cmpI (key x) (key y))) ∧ Below W.heap.size W w'

/-- what a part of the sort leaves -/
def SortPost (key : Int → Int) (base g N a b : Nat) (l : List Int) (w0 : World) (e : Ending) (w' : World) : Prop :=
  (∃ v, e = .returned v) ∧ ∃ l', Aside (Seg a b l l') ∧ Aside (Srt key a b l') ∧ Aside (RowI w' base g N l') ∧ Aside (Below base w0 w')

theorem below_mid {base : Nat} {w0 W W' : World} (h : Below base w0 W) (hb : base ≤ W.heap.size) (k : Below W.heap.size W W') : Below base w0 W' := h.trans (k.mono hb)

set_option maxHeartbeats 4000000 in
theorem insSort_any (key : Int → Int) (M F : Nat) (cb : Array Value) (base g N a b : Nat) (l : List Int) (w0 w : World) (hen : Enters Tryd.prog F) (hcmp : CmpOn F cb key M base w0) (hbw : Below base w0 w) (hrow : RowI w base g N l)
    (hM : ∀ x ∈ l, 0 ≤ x ∧ x < (M : Int)) (hab : a < b) (hbN : b ≤ N) (hN : N ≤ 1000000) (hasc : Asc a b l) :
    Calls Tryd.prog 150 #[.slice (some ⟨g, 0, none⟩) N N, .int .i64 a, .int .i64 b, .func (.func F) #[] cb] w (SortPost key base g N a b l w0) := by
  have HC := Lib.hid hcmp
  have HM := Lib.hid hM
  have HA := Lib.hid hasc
  have HB0 := Lib.hid hbw
  have HR0 := Lib.hid hrow
  have HS0 := Lib.hid (InsO.start key a l)
  unfold Enters at hen
  clear hcmp hM hasc hbw hrow
  go_enter Tryd.func150, Tryd.ntmps150
  go_wp2
  go_loopg [8] (N + 1) (fun gg v8 wr => ∃ (i : Nat) (l2 : List Int), a < i ∧ i ≤ b ∧ N + 1 - i ≤ gg ∧ v8 = .int .i64 i ∧ Aside (InsO key a i l l2) ∧ Aside (RowI wr base g N l2) ∧ Aside (Below base w0 wr))
  case atStart => exact ⟨a + 1, l, by omega, by omega, by omega, by go_num, HS0.out, HR0.out, HB0.out⟩
  case round =>
    clear HB0 HR0 HS0
    obtain ⟨i, l2, hai, hib, hg, rfl, HS, HR, HB⟩ := hrel
    by_cases hlt : i < b
    · have hlt2 : (i : Int) < (b : Int) := by omega
      have hl2 := HR.out.len
      obtain ⟨v, hv⟩ : ∃ v, l2[i]? = some v := ⟨l2[i], List.getElem?_eq_getElem (by omega)⟩
      have HI0 := Lib.hid (HS.out.in (by omega) hlt HA.out hv)
      have HMV := Lib.hid (HM.out v (HS.out.1.perm.subset (List.mem_of_getElem? hv)))
      clear hv hl2
      go_wp2
      go_loopg [9] (N + 1) (fun gg2 v9 wr2 => ∃ (j : Nat) (l3 : List Int), a ≤ j ∧ j ≤ i ∧ j ≤ gg2 ∧ v9 = .int .i64 j ∧ Aside (InsP key a i j v l2 l3) ∧ Aside (RowI wr2 base g N l3) ∧ Aside (Below base w0 wr2))
      case atStart => exact ⟨i, l2, by omega, Nat.le_refl _, by omega, rfl, HI0.out, HR.out, HB.out⟩
      case round =>
        clear HR HB HI0
        obtain ⟨j, l3, haj, hji, hg2, rfl, HP, HR3, HB3⟩ := hrel
        by_cases hja : a < j
        · obtain ⟨j, rfl⟩ : ∃ j', j = j' + 1 := ⟨j - 1, by omega⟩
          have hl3 := HR3.out.len
          obtain ⟨u, hu⟩ : ∃ u, l3[j]? = some u := ⟨l3[j], List.getElem?_eq_getElem (by omega)⟩
          have c1 := HR3.out.cell HP.out.2.2.2.1
          have c2 := HR3.out.cell hu
          have hmu := HM.out u (HS.out.1.perm.subset (HP.out.2.2.1.perm.subset (List.mem_of_getElem? hu)))
          have HCC := Lib.hid (fun W h => HC.out W v u h HMV.out.1 HMV.out.2 hmu.1 hmu.2)
          have hjN : (j : Int) + 1 < (N : Int) := by omega
          have hja2 : (a : Int) < (j : Int) + 1 := by omega
          have hsz3 : base ≤ wr.heap.size := by have := HR3.out.base; omega
          have K1 := fun p => cell_ext p c1
          have K2 := fun p => cell_ext p c2
          have hj0 : (0 : Int) ≤ (j : Int) + 1 := by omega
          have hj00 : (0 : Int) ≤ (j : Int) := by omega
          have hjN2 : (j : Int) < (N : Int) := by omega
          by_cases hk : key v < key u
          · have HP2 := Lib.hid (HP.out.step (by omega) (by omega) hu hk)
            have hcz : cmpI (key v) (key u) = -1 := if_pos hk
            rw [hcz] at HCC
            clear hcz
            go_wp2
            refine wp_region_ext (by kernel_rfl) (by kernel_rfl) ?_
            repeat (go_big_quiet_step ((exact Calls.ext_of (HCC.out _ (below_mid HB3.out hsz3 (below_ext wr _))))))
            refine wpQuiet_nil ?_
            rintro _ ⟨p4, rfl⟩
            have HB4 := Lib.hid (below_ext wr p4)
            generalize ext wr p4 = w4 at HB4 ⊢
            have HR4 := Lib.hid (show RowI w4 base g N l3 from owns_goD HR3.out HB4.out)
            have HB5 := Lib.hid (below_mid HB3.out hsz3 HB4.out)
            have c3 := HR4.out.cell HP.out.2.2.2.1
            have c4 := HR4.out.cell hu
            have z3 := HR4.out.frozenAt (j + 1)
            have z4 := HR4.out.frozenAt j
            have HU := Lib.hid hu
            clear K1 K2 c1 c2 hu
            go_wp2
            have HSW := Lib.hid (show swapL l3 (j + 1) j = (l3.set (j + 1) u).set j v by unfold swapL; rw [getD_of HU.out, getD_of HP.out.2.2.2.1])
            have hgb : base ≤ g := HR4.out.base.1
            go_region
            all_goals
              go_wp2
              go_roundg j
              case measure => omega
              case rel =>
                refine ⟨j, swapL l3 (j + 1) j, by omega, by omega, Nat.le_refl _, by go_num, HP2.out, ?_, ?_⟩
                · rw [HSW.out]
                  first
                    | exact (HR4.out.put (j + 1) u).put j v
                    | (rw [List.set_comm _ _ (by omega)]; exact (HR4.out.put j v).put (j + 1) u)
                · first
                    | exact (HB5.out.setCell (p := ⟨g, j + 1, none⟩) hgb (.int .i64 u)).setCell (p := ⟨g, j, none⟩) hgb (.int .i64 v)
                    | exact (HB5.out.setCell (p := ⟨g, j, none⟩) hgb (.int .i64 v)).setCell (p := ⟨g, j + 1, none⟩) hgb (.int .i64 u)
                    | exact ((HB5.out.setCell (p := ⟨g, j + 1, none⟩) hgb (.int .i64 u)).setCell (p := ⟨g, j, none⟩) hgb (.int .i64 v)).drew
                    | exact ((HB5.out.setCell (p := ⟨g, j, none⟩) hgb (.int .i64 v)).setCell (p := ⟨g, j + 1, none⟩) hgb (.int .i64 u)).drew
          · have hcz : ¬ cmpI (key v) (key u) < 0 := by unfold cmpI; rw [if_neg hk]; split <;> omega
            generalize cmpI (key v) (key u) = cz at *
            have HI2 := Lib.hid (HS.out.next (b := b) HP.out (.inr ⟨u, by omega, hu, hk⟩))
            clear hk hu
            go_wp2
            refine wp_region_ext (by kernel_rfl) (by kernel_rfl) ?_
            repeat (go_big_quiet_step ((exact Calls.ext_of (HCC.out _ (below_mid HB3.out hsz3 (below_ext wr _))))))
            refine wpQuiet_nil ?_
            rintro _ ⟨p4, rfl⟩
            have HB4 := Lib.hid (below_ext wr p4)
            generalize ext wr p4 = w4 at HB4 ⊢
            have HR4 := Lib.hid (show RowI w4 base g N l3 from owns_goD HR3.out HB4.out)
            have HB5 := Lib.hid (below_mid HB3.out hsz3 HB4.out)
            clear K1 K2 c1 c2
            go_wp2
            go_roundg (N + 1 - (i + 1))
            case measure => omega
            case rel => exact ⟨i + 1, l3, by omega, by omega, by omega, by go_num, HI2.out, HR4.out, HB5.out⟩
        · have hja2 : ¬ (a : Int) < (j : Int) := by omega
          have HI2 := Lib.hid (HS.out.next (b := b) HP.out (.inl (by omega)))
          go_wp2
          go_quiet (fail)
          go_wp2
          go_roundg (N + 1 - (i + 1))
          case measure => omega
          case rel => exact ⟨i + 1, l3, by omega, by omega, by omega, by go_num, HI2.out, HR3.out, below_drewN HB3.out _⟩
    · obtain rfl : i = b := by omega
      go_wp2
      go_end0
      exact ⟨⟨_, rfl⟩, l2, HS.out.1, HS.out.2, HR.out, HB.out⟩

end Go.Proofs.YtfjplphdkfiljaaDoor
