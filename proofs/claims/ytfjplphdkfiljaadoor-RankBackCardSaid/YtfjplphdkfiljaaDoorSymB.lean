/-
  Walk of the library's stable sort: merging two parts.
-/
import Derived.Test.YtfjplphdkfiljaaDoorProg
import Derived.Test.YtfjplphdkfiljaaDoorSymA
namespace Go.Proofs.YtfjplphdkfiljaaDoor
open Go.Proofs Go.RowKit Go.Shelf

def SymOK (key : Int → Int) (M F : Nat) (cb : Array Value) (base g N d : Nat) (w0 : World) : Prop :=
  ∀ (a m b : Nat) (l : List Int) (w : World), b - a ≤ d → a < m → m < b → b ≤ N → Below base w0 w → RowI w base g N l → Srt key a m l → Srt key m b l → Crs a m b l → (∀ x ∈ l, 0 ≤ x ∧ x < (M : Int)) →
    Calls Tryd.prog 151 #[.slice (some ⟨g, 0, none⟩) N N, .int .i64 a, .int .i64 m, .int .i64 b, .func (.func F) #[] cb] w (SortPost key base g N a b l w0)

set_option maxRecDepth 100000 in
set_option maxHeartbeats 8000000 in
theorem sym_left (key : Int → Int) (M F : Nat) (cb : Array Value) (base g N a b : Nat) (l : List Int) (w0 w : World) (hen : Enters Tryd.prog F) (hcmp : CmpOn F cb key M base w0) (hN : N ≤ 1000000) (hmb : a + 1 < b) (hbN : b ≤ N)
    (hbw : Below base w0 w) (hrow : RowI w base g N l) (h1 : Srt key (a + 1) b l) (hc : Crs a (a + 1) b l) (hM : ∀ x ∈ l, 0 ≤ x ∧ x < (M : Int)) :
    Calls Tryd.prog 151 #[.slice (some ⟨g, 0, none⟩) N N, .int .i64 a, .int .i64 ((a + 1 : Nat) : Int), .int .i64 b, .func (.func F) #[] cb] w (SortPost key base g N a b l w0) := by
  have HC := Lib.hid hcmp
  have HM := Lib.hid hM
  have HB0 := Lib.hid hbw
  have HR0 := Lib.hid hrow
  have HS1 := Lib.hid h1
  have HCR := Lib.hid hc
  have HL := Lib.hid hrow.len
  obtain ⟨x, hx⟩ : ∃ x, l[a]? = some x := ⟨l[a]'(by have := hrow.len; omega), List.getElem?_eq_getElem _⟩
  have HX := Lib.hid hx
  have HMO := Lib.hid (up_mono (x := x) (show b ≤ l.length by have := hrow.len; omega) h1)
  unfold Enters at hen
  clear hcmp hM hbw hrow h1 hc hx
  have hma : ((a : Int) + 1 - (a : Int) == 1) = true := by rw [beq_iff_eq]; omega
  go_enter Tryd.func151, Tryd.ntmps151
  go_wp2
  clear hma
  go_loopg [10, 11] b (fun gg v10 v11 wr => ∃ i j : Nat, j - i ≤ gg ∧ v10 = .int .i64 i ∧ v11 = .int .i64 j ∧ a < i ∧ i ≤ j ∧ j ≤ b ∧ Aside (BinP (fun h => key (l.getD h 0) < key x) (a + 1) b i j) ∧ Aside (RowI wr base g N l) ∧ Aside (Below base w0 wr))
  case atStart => exact ⟨a + 1, b, by omega, rfl, rfl, by omega, by omega, Nat.le_refl _, .start (by omega), HR0.out, HB0.out⟩
  case round =>
    clear HB0 HR0
    obtain ⟨i, j, hg, rfl, rfl, hai, hij, hjb, HBP, HR, HB⟩ := hrel
    by_cases hlt : i < j
    · obtain ⟨h, hh, hh1, hh2⟩ : ∃ h : Nat, h = (i + j) / 2 ∧ i ≤ h ∧ h < j := ⟨(i + j) / 2, rfl, by omega, by omega⟩
      have hlt2 : (i : Int) < (j : Int) := by omega
      have hhe : ((i : Int) + (j : Int)) / 2 = (h : Int) := by omega
      have hhN : (h : Int) < (N : Int) := by omega
      have haN : (a : Int) < (N : Int) := by omega
      have hh0 : (0 : Int) ≤ (h : Int) := by omega
      have ha0 : (0 : Int) ≤ (a : Int) := by omega
      have hl := HL.out
      obtain ⟨y, hy⟩ : ∃ y, l[h]? = some y := ⟨l[h]'(by omega), List.getElem?_eq_getElem _⟩
      have hgy := getD_of hy
      have c1 := HR.out.cell hy
      have c2 := HR.out.cell HX.out
      have b1 := HM.out y (List.mem_of_getElem? hy)
      have b2 := HM.out x (List.mem_of_getElem? HX.out)
      have HCC := Lib.hid (fun W hb => HC.out W y x hb b1.1 b1.2 b2.1 b2.2)
      have hsz3 : base ≤ wr.heap.size := by have := HR.out.base; omega
      have K1 := fun p => cell_ext p c1
      have K2 := fun p => cell_ext p c2
      by_cases hk : key y < key x
      · have HBP2 := Lib.hid (HBP.out.yes HMO.out hh1 hh2 (by show key (l.getD h 0) < key x; rw [hgy]; exact hk))
        have hcz : cmpI (key y) (key x) = -1 := if_pos hk
        rw [hcz] at HCC
        clear hcz hgy hk hy hh hl
        go_wp2
        refine wp_region_ext (by kernel_rfl) (by kernel_rfl) ?_
        repeat (go_big_quiet_step ((exact Calls.ext_of (HCC.out _ (below_mid HB.out hsz3 (below_ext wr _))))))
        refine wpQuiet_nil ?_
        rintro _ ⟨p4, rfl⟩
        have HB4 := Lib.hid (below_ext wr p4)
        generalize ext wr p4 = w4 at HB4 ⊢
        have HR4 := Lib.hid (show RowI w4 base g N l from owns_goD HR.out HB4.out)
        have HB5 := Lib.hid (below_mid HB.out hsz3 HB4.out)
        clear K1 K2 c1 c2
        go_wp2
        go_roundg (j - (h + 1))
        case measure => omega
        case rel => exact ⟨h + 1, j, Nat.le_refl _, by go_num, rfl, by omega, by omega, hjb, HBP2.out, HR4.out, HB5.out⟩
      · have HBP2 := Lib.hid (HBP.out.no HMO.out hh1 hh2 (by show ¬ key (l.getD h 0) < key x; rw [hgy]; exact hk))
        have hcz : ¬ cmpI (key y) (key x) < 0 := by unfold cmpI; rw [if_neg hk]; split <;> omega
        generalize cmpI (key y) (key x) = cz at *
        clear hgy hk hy hh hl
        go_wp2
        refine wp_region_ext (by kernel_rfl) (by kernel_rfl) ?_
        repeat (go_big_quiet_step ((exact Calls.ext_of (HCC.out _ (below_mid HB.out hsz3 (below_ext wr _))))))
        refine wpQuiet_nil ?_
        rintro _ ⟨p4, rfl⟩
        have HB4 := Lib.hid (below_ext wr p4)
        generalize ext wr p4 = w4 at HB4 ⊢
        have HR4 := Lib.hid (show RowI w4 base g N l from owns_goD HR.out HB4.out)
        have HB5 := Lib.hid (below_mid HB.out hsz3 HB4.out)
        clear K1 K2 c1 c2
        go_wp2
        go_roundg (h - i)
        case measure => omega
        case rel => exact ⟨i, h, Nat.le_refl _, rfl, rfl, hai, hh1, by omega, HBP2.out, HR4.out, HB5.out⟩
    · obtain rfl : i = j := by omega
      have HU0 := Lib.hid (UpP.start HX.out HS1.out HCR.out hmb HBP.out)
      go_wp2
      go_loopg [13] b (fun gg v13 wr2 => ∃ (k : Nat) (c : List Int), b - k ≤ gg ∧ k < b ∧ v13 = .int .i64 k ∧ Aside (UpP key a b k i x l c) ∧ Aside (RowI wr2 base g N c) ∧ Aside (Below base w0 wr2))
      case atStart => exact ⟨a, l, by omega, by omega, rfl, HU0.out, HR.out, HB.out⟩
      case round =>
        clear HR HB HU0
        obtain ⟨k, c, hg2, hkb, rfl, HU, HR2, HB2⟩ := hrel
        have hie : ((i : Int) - 1) = ((i - 1 : Nat) : Int) := by omega
        by_cases hki : k + 1 < i
        · have hki2 : (k : Int) < (i : Int) - 1 := by omega
          have hlc := HR2.out.len
          obtain ⟨y, hy⟩ : ∃ y, c[k + 1]? = some y := ⟨c[k + 1]'(by omega), List.getElem?_eq_getElem _⟩
          have HU2 := Lib.hid (HU.out.step hki (by omega))
          have hkx := HU.out.2.2.2.2.1
          have c1 := HR2.out.cell hkx
          have c2 := HR2.out.cell hy
          have z1 := HR2.out.frozenAt k
          have z2 := HR2.out.frozenAt (k + 1)
          have HSW := Lib.hid (show swapL c k (k + 1) = (c.set k y).set (k + 1) x by unfold swapL; rw [getD_of hkx, getD_of hy])
          have hgb : base ≤ g := HR2.out.base.1
          have hkN : (k : Int) + 1 < (N : Int) := by omega
          have hkN2 : (k : Int) < (N : Int) := by omega
          have hk0 : (0 : Int) ≤ (k : Int) := by omega
          clear hie hkx hy hlc
          go_wp2
          go_region
          all_goals
            go_wp2
            go_roundg (b - (k + 1))
            case measure => omega
            case rel =>
              refine ⟨k + 1, swapL c k (k + 1), Nat.le_refl _, by omega, by go_num, HU2.out, ?_, ?_⟩
              · rw [HSW.out]
                first
                  | exact (HR2.out.put k y).put (k + 1) x
                  | (rw [List.set_comm _ _ (by omega)]; exact (HR2.out.put (k + 1) x).put k y)
              · first
                  | exact (HB2.out.setCell (p := ⟨g, k, none⟩) hgb (.int .i64 y)).setCell (p := ⟨g, k + 1, none⟩) hgb (.int .i64 x)
                  | exact (HB2.out.setCell (p := ⟨g, k + 1, none⟩) hgb (.int .i64 x)).setCell (p := ⟨g, k, none⟩) hgb (.int .i64 y)
                  | exact ((HB2.out.setCell (p := ⟨g, k, none⟩) hgb (.int .i64 y)).setCell (p := ⟨g, k + 1, none⟩) hgb (.int .i64 x)).drew
                  | exact ((HB2.out.setCell (p := ⟨g, k + 1, none⟩) hgb (.int .i64 x)).setCell (p := ⟨g, k, none⟩) hgb (.int .i64 y)).drew
        · have hki2 : ¬ (k : Int) < (i : Int) - 1 := by omega
          obtain ⟨e1, e2⟩ := HU.out.stop hki
          have E1 := Lib.hid e1
          have E2 := Lib.hid e2
          clear e1 e2 hie
          go_wp2
          refine bodyPost_ret (results_none rfl _ _ _) rfl ?_
          exact ⟨⟨_, rfl⟩, c, E1.out, E2.out, HR2.out, HB2.out⟩

def YDn (key : Int → Int) (x : Int) (l : List Int) (h : Nat) : Prop := ¬ key x < key (l.getD h 0)

set_option maxRecDepth 100000 in
set_option maxHeartbeats 8000000 in
theorem sym_right (key : Int → Int) (M F : Nat) (cb : Array Value) (base g N a m : Nat) (l : List Int) (w0 w : World) (hen : Enters Tryd.prog F) (hcmp : CmpOn F cb key M base w0) (hN : N ≤ 1000000) (ham : a + 1 < m) (hbN : m + 1 ≤ N)
    (hbw : Below base w0 w) (hrow : RowI w base g N l) (h1 : Srt key a m l) (hc : Crs a m (m + 1) l) (hM : ∀ x ∈ l, 0 ≤ x ∧ x < (M : Int)) :
    Calls Tryd.prog 151 #[.slice (some ⟨g, 0, none⟩) N N, .int .i64 a, .int .i64 m, .int .i64 ((m + 1 : Nat) : Int), .func (.func F) #[] cb] w (SortPost key base g N a (m + 1) l w0) := by
  have HC := Lib.hid hcmp
  have HM := Lib.hid hM
  have HB0 := Lib.hid hbw
  have HR0 := Lib.hid hrow
  have HS1 := Lib.hid h1
  have HCR := Lib.hid hc
  have HL := Lib.hid hrow.len
  obtain ⟨x, hx⟩ : ∃ x, l[m]? = some x := ⟨l[m]'(by have := hrow.len; omega), List.getElem?_eq_getElem _⟩
  have HX := Lib.hid hx
  unfold Enters at hen
  clear hcmp hM hbw hrow h1 hc hx
  have hma : ((m : Int) - (a : Int) == 1) = false := by rw [beq_eq_false_iff_ne]; omega
  have hmb : ((m : Int) + 1 - (m : Int) == 1) = true := by rw [beq_iff_eq]; omega
  go_enter Tryd.func151, Tryd.ntmps151
  go_wp2
  clear hma hmb
  go_loopg [14, 15] m (fun gg v10 v11 wr => ∃ i j : Nat, j - i ≤ gg ∧ v10 = .int .i64 i ∧ v11 = .int .i64 j ∧ a ≤ i ∧ i ≤ j ∧ j ≤ m ∧ Aside (BinP (YDn key x l) a m i j) ∧ Aside (RowI wr base g N l) ∧ Aside (Below base w0 wr))
  case atStart => exact ⟨a, m, by omega, rfl, rfl, Nat.le_refl _, by omega, Nat.le_refl _, .start (by omega), HR0.out, HB0.out⟩
  case round =>
    clear HB0 HR0
    obtain ⟨i, j, hg, rfl, rfl, hai, hij, hjb, HBP, HR, HB⟩ := hrel
    by_cases hlt : i < j
    · obtain ⟨h, hh, hh1, hh2⟩ : ∃ h : Nat, h = (i + j) / 2 ∧ i ≤ h ∧ h < j := ⟨(i + j) / 2, rfl, by omega, by omega⟩
      have hlt2 : (i : Int) < (j : Int) := by omega
      have hhe : ((i : Int) + (j : Int)) / 2 = (h : Int) := by omega
      have hhN : (h : Int) < (N : Int) := by omega
      have haN : (m : Int) < (N : Int) := by omega
      have hh0 : (0 : Int) ≤ (h : Int) := by omega
      have ha0 : (0 : Int) ≤ (m : Int) := by omega
      have hl := HL.out
      obtain ⟨y, hy⟩ : ∃ y, l[h]? = some y := ⟨l[h]'(by omega), List.getElem?_eq_getElem _⟩
      have hgy := getD_of hy
      have c1 := HR.out.cell hy
      have c2 := HR.out.cell HX.out
      have b1 := HM.out y (List.mem_of_getElem? hy)
      have b2 := HM.out x (List.mem_of_getElem? HX.out)
      have HCC := Lib.hid (fun W hb => HC.out W x y hb b2.1 b2.2 b1.1 b1.2)
      have hsz3 : base ≤ wr.heap.size := by have := HR.out.base; omega
      have K1 := fun p => cell_ext p c1
      have K2 := fun p => cell_ext p c2
      by_cases hk : key x < key y
      · have HBP2 := Lib.hid (HBP.out.no (dn_mono (x := x) (by have := HL.out; omega) HS1.out) hh1 hh2 (by show ¬ ¬ key x < key (l.getD h 0); rw [hgy]; exact fun e => e hk))
        have hcz : cmpI (key x) (key y) = -1 := if_pos hk
        rw [hcz] at HCC
        clear hcz hgy hk hy hh hl
        go_wp2
        refine wp_region_ext (by kernel_rfl) (by kernel_rfl) ?_
        repeat (go_big_quiet_step ((exact Calls.ext_of (HCC.out _ (below_mid HB.out hsz3 (below_ext wr _))))))
        refine wpQuiet_nil ?_
        rintro _ ⟨p4, rfl⟩
        have HB4 := Lib.hid (below_ext wr p4)
        generalize ext wr p4 = w4 at HB4 ⊢
        have HR4 := Lib.hid (show RowI w4 base g N l from owns_goD HR.out HB4.out)
        have HB5 := Lib.hid (below_mid HB.out hsz3 HB4.out)
        clear K1 K2 c1 c2
        go_wp2
        go_roundg (h - i)
        case measure => omega
        case rel => exact ⟨i, h, Nat.le_refl _, rfl, rfl, hai, hh1, by omega, HBP2.out, HR4.out, HB5.out⟩
      · have HBP2 := Lib.hid (HBP.out.yes (dn_mono (x := x) (by have := HL.out; omega) HS1.out) hh1 hh2 (by show ¬ key x < key (l.getD h 0); rw [hgy]; exact hk))
        have hcz : ¬ cmpI (key x) (key y) < 0 := by unfold cmpI; rw [if_neg hk]; split <;> omega
        generalize cmpI (key x) (key y) = cz at *
        have hcz2 : (!decide (cz < 0)) = true := by simp; omega
        clear hgy hk hy hh hl
        go_wp2
        refine wp_region_ext (by kernel_rfl) (by kernel_rfl) ?_
        repeat (go_big_quiet_step ((exact Calls.ext_of (HCC.out _ (below_mid HB.out hsz3 (below_ext wr _))))))
        refine wpQuiet_nil ?_
        rintro _ ⟨p4, rfl⟩
        have HB4 := Lib.hid (below_ext wr p4)
        generalize ext wr p4 = w4 at HB4 ⊢
        have HR4 := Lib.hid (show RowI w4 base g N l from owns_goD HR.out HB4.out)
        have HB5 := Lib.hid (below_mid HB.out hsz3 HB4.out)
        clear K1 K2 c1 c2
        go_wp2
        go_roundg (j - (h + 1))
        case measure => omega
        case rel => exact ⟨h + 1, j, Nat.le_refl _, by go_num, rfl, by omega, by omega, hjb, HBP2.out, HR4.out, HB5.out⟩
    · obtain rfl : i = j := by omega
      have HU0 := Lib.hid (DnP.start (i := i) (show a ≤ m by omega) hjb HX.out HS1.out HCR.out)
      go_wp2
      go_loopg [17] m (fun gg v13 wr2 => ∃ (k : Nat) (c : List Int), k ≤ gg ∧ i ≤ k ∧ k ≤ m ∧ v13 = .int .i64 k ∧ Aside (DnP key a m k i x l c) ∧ Aside (RowI wr2 base g N c) ∧ Aside (Below base w0 wr2))
      case atStart => exact ⟨m, l, Nat.le_refl _, hjb, Nat.le_refl _, rfl, HU0.out, HR.out, HB.out⟩
      case round =>
        clear HR HB HU0
        obtain ⟨k, c, hg2, hik, hkm, rfl, HU, HR2, HB2⟩ := hrel
        by_cases hki : i < k
        · obtain ⟨k, rfl⟩ : ∃ k', k = k' + 1 := ⟨k - 1, by omega⟩
          have hki2 : (i : Int) < (k : Int) + 1 := by omega
          have hlc := HR2.out.len
          obtain ⟨y, hy⟩ : ∃ y, c[k]? = some y := ⟨c[k]'(by omega), List.getElem?_eq_getElem _⟩
          have HU2 := Lib.hid (HU.out.step (by omega) hai (by omega) HBP.out (by omega))
          have hkx := HU.out.1.2.2.2.1
          have c1 := HR2.out.cell hkx
          have c2 := HR2.out.cell hy
          have z1 := HR2.out.frozenAt k
          have z2 := HR2.out.frozenAt (k + 1)
          have HSW := Lib.hid (show swapL c (k + 1) k = (c.set (k + 1) y).set k x by unfold swapL; rw [getD_of hkx, getD_of hy])
          have hgb : base ≤ g := HR2.out.base.1
          have hkN : (k : Int) + 1 < (N : Int) := by omega
          have hkN2 : (k : Int) < (N : Int) := by omega
          have hk0 : (0 : Int) ≤ (k : Int) := by omega
          clear hkx hy hlc
          go_wp2
          go_region
          all_goals
            go_wp2
            go_roundg k
            case measure => omega
            case rel =>
              refine ⟨k, swapL c (k + 1) k, Nat.le_refl _, by omega, by omega, by go_num, HU2.out, ?_, ?_⟩
              · rw [HSW.out]
                first
                  | exact (HR2.out.put (k + 1) y).put k x
                  | (rw [List.set_comm _ _ (by omega)]; exact (HR2.out.put k x).put (k + 1) y)
              · first
                  | exact (HB2.out.setCell (p := ⟨g, k + 1, none⟩) hgb (.int .i64 y)).setCell (p := ⟨g, k, none⟩) hgb (.int .i64 x)
                  | exact (HB2.out.setCell (p := ⟨g, k, none⟩) hgb (.int .i64 x)).setCell (p := ⟨g, k + 1, none⟩) hgb (.int .i64 y)
                  | exact ((HB2.out.setCell (p := ⟨g, k + 1, none⟩) hgb (.int .i64 y)).setCell (p := ⟨g, k, none⟩) hgb (.int .i64 x)).drew
                  | exact ((HB2.out.setCell (p := ⟨g, k, none⟩) hgb (.int .i64 x)).setCell (p := ⟨g, k + 1, none⟩) hgb (.int .i64 y)).drew
        · obtain rfl : i = k := by omega
          obtain ⟨e1, e2⟩ := HU.out.stop (by have := HL.out; omega) HBP.out
          have E1 := Lib.hid e1
          have E2 := Lib.hid e2
          clear e1 e2
          go_wp2
          refine bodyPost_ret (results_none rfl _ _ _) rfl ?_
          exact ⟨⟨_, rfl⟩, c, E1.out, E2.out, HR2.out, HB2.out⟩

end Go.Proofs.YtfjplphdkfiljaaDoor
