/-
  Walks of the library's stable sort: two stretches change places, two parts change places.
-/
import Derived.Test.YtfjplphdkfiljaaDoorProg
import Derived.Test.YtfjplphdkfiljaaDoorSortA
import Derived.Test.YtfjplphdkfiljaaDoorSymSpec
namespace Go.Proofs.YtfjplphdkfiljaaDoor
open Go.Proofs Go.RowKit Go.Shelf

/-- what a part of the sort leaves, of which R speaks -/
def TurnPost (R : List Int → Prop) (base g N : Nat) (l : List Int) (w0 : World) (e : Ending) (w' : World) : Prop :=
  (∃ v, e = .returned v) ∧ ∃ l', Aside (R l') ∧ Aside (l'.Perm l) ∧ Aside (RowI w' base g N l') ∧ Aside (Below base w0 w')

set_option maxHeartbeats 4000000 in
theorem swapRange_any (fv : Value) (base g N a b n : Nat) (l : List Int) (w0 w : World) (hbw : Below base w0 w) (hrow : RowI w base g N l) (hd : a + n ≤ b ∨ b + n ≤ a) (ha : a + n ≤ N) (hb : b + n ≤ N) (hN : N ≤ 1000000) :
    Calls Tryd.prog 174 #[.slice (some ⟨g, 0, none⟩) N N, .int .i64 a, .int .i64 b, .int .i64 n, fv] w (TurnPost (SwR a b n l) base g N l w0) := by
  have HB0 := Lib.hid hbw
  have HR0 := Lib.hid hrow
  have HL := Lib.hid hrow.len
  have HD := Lib.hid hd
  clear hbw hrow hd
  go_enter Tryd.func174, Tryd.ntmps174
  go_wp2
  go_loopg [10] n (fun gg v10 wr => ∃ (k : Nat) (c : List Int), k ≤ n ∧ n - k ≤ gg ∧ v10 = .int .i64 k ∧ Aside (SwR a b k l c) ∧ Aside (c.Perm l) ∧ Aside (RowI wr base g N c) ∧ Aside (Below base w0 wr))
  case atStart => exact ⟨0, l, Nat.zero_le _, by omega, rfl, .zero _ _ _, List.Perm.refl _, HR0.out, HB0.out⟩
  case round =>
    clear HB0 HR0
    obtain ⟨k, c, hk, hg, rfl, HS, HP, HR, HB⟩ := hrel
    by_cases hlt : k < n
    · have hlt2 : (k : Int) < (n : Int) := by omega
      have hlc := HR.out.len
      obtain ⟨x, hx⟩ : ∃ x, c[a + k]? = some x := ⟨c[a + k], List.getElem?_eq_getElem (by omega)⟩
      obtain ⟨y, hy⟩ : ∃ y, c[b + k]? = some y := ⟨c[b + k], List.getElem?_eq_getElem (by omega)⟩
      have c1 := HR.out.cell hx
      have c2 := HR.out.cell hy
      have z1 := HR.out.frozenAt (a + k)
      have z2 := HR.out.frozenAt (b + k)
      have HSW := Lib.hid (show swapL c (a + k) (b + k) = (c.set (a + k) y).set (b + k) x by unfold swapL; rw [getD_of hx, getD_of hy])
      have HS2 := Lib.hid (HS.out.step (by have := HD.out; omega) (by have := HL.out; omega) (by have := HL.out; omega))
      have HP2 := Lib.hid ((swapL_perm (i := a + k) (j := b + k) (l := c) (by omega) (by omega)).trans HP.out)
      have hgb : base ≤ g := HR.out.base.1
      have s1 : (a : Int) + (k : Int) < (N : Int) := by omega
      have s2 : (b : Int) + (k : Int) < (N : Int) := by omega
      have s3 : (0 : Int) ≤ (a : Int) + (k : Int) := by omega
      have s4 : (0 : Int) ≤ (b : Int) + (k : Int) := by omega
      have t1 : ((a : Int) + (k : Int)).toNat = a + k := by omega
      have t2 : ((b : Int) + (k : Int)).toNat = b + k := by omega
      have hab : a + k ≠ b + k := by have := HD.out; omega
      have HAB := Lib.hid hab
      have v1 : IntKind.i64.wrap ((a : Int) + (k : Int)) = (a : Int) + (k : Int) := IntWalk.i64_in _ (by omega)
      have v2 : IntKind.i64.wrap ((b : Int) + (k : Int)) = (b : Int) + (k : Int) := IntWalk.i64_in _ (by omega)
      have hba : b + k ≠ a + k := fun e => hab e.symm
      have n1 : (a + k = b + k) = False := by simpa using hab
      have n2 : (b + k = a + k) = False := by simpa using hba
      clear hx hy hlc
      go_wp2
      go_region
      all_goals
        go_wp2
        go_roundg (n - (k + 1))
        case measure => omega
        case rel =>
          refine ⟨k + 1, swapL c (a + k) (b + k), by omega, by omega, by go_num, HS2.out, HP2.out, ?_, ?_⟩
          · rw [HSW.out]
            first
              | exact (HR.out.put (a + k) y).put (b + k) x
              | (rw [List.set_comm _ _ HAB.out]; exact (HR.out.put (b + k) x).put (a + k) y)
          · first
              | exact (HB.out.setCell (p := ⟨g, a + k, none⟩) hgb (.int .i64 y)).setCell (p := ⟨g, b + k, none⟩) hgb (.int .i64 x)
              | exact (HB.out.setCell (p := ⟨g, b + k, none⟩) hgb (.int .i64 x)).setCell (p := ⟨g, a + k, none⟩) hgb (.int .i64 y)
              | exact ((HB.out.setCell (p := ⟨g, a + k, none⟩) hgb (.int .i64 y)).setCell (p := ⟨g, b + k, none⟩) hgb (.int .i64 x)).drew
              | exact ((HB.out.setCell (p := ⟨g, b + k, none⟩) hgb (.int .i64 x)).setCell (p := ⟨g, a + k, none⟩) hgb (.int .i64 y)).drew
    · obtain rfl : k = n := by omega
      go_wp2
      go_end0
      exact ⟨⟨_, rfl⟩, c, HS.out, HP.out, HR.out, HB.out⟩

set_option maxHeartbeats 4000000 in
theorem rotate_any (fv : Value) (base g N a m b : Nat) (l : List Int) (w0 w : World) (hbw : Below base w0 w) (hrow : RowI w base g N l) (hab : a < m ∧ m < b) (hb : b ≤ N) (hN : N ≤ 1000000) :
    Calls Tryd.prog 167 #[.slice (some ⟨g, 0, none⟩) N N, .int .i64 a, .int .i64 m, .int .i64 b, fv] w (TurnPost (Rot a m b l) base g N l w0) := by
  have HB0 := Lib.hid hbw
  have HR0 := Lib.hid hrow
  obtain ⟨I, hI⟩ : ∃ I, m = a + I := ⟨m - a, by omega⟩
  obtain ⟨J, hJ⟩ : ∃ J, b = m + J := ⟨b - m, by omega⟩
  have HS0 := Lib.hid (show ∀ t, Rot (m - I) m (m + J) l t → Rot a m b l t by intro t h; rw [hJ]; rwa [show m - I = a by omega] at h)
  have hIe : (m : Int) - (a : Int) = (I : Int) := by omega
  have hJe : (b : Int) - (m : Int) = (J : Int) := by omega
  have hI0 : 0 < I := by omega
  have hJ0 : 0 < J := by omega
  have hIm : I ≤ m := by omega
  have hJm : m + J ≤ N := by omega
  clear hbw hrow hI hJ hab hb
  go_enter Tryd.func167, Tryd.ntmps167
  go_wp2
  go_loopg [10, 11] (I + J) (fun gg v10 v11 wr => ∃ (i j : Nat) (c : List Int), 0 < i ∧ 0 < j ∧ i ≤ m ∧ m + j ≤ N ∧ i + j ≤ gg ∧ v10 = .int .i64 i ∧ v11 = .int .i64 j ∧ Aside (∀ t, Rot (m - i) m (m + j) c t → Rot a m b l t) ∧ Aside (c.Perm l) ∧
    Aside (RowI wr base g N c) ∧ Aside (Below base w0 wr))
  case atStart => exact ⟨I, J, l, hI0, hJ0, hIm, hJm, Nat.le_refl _, rfl, rfl, HS0.out, List.Perm.refl _, HR0.out, HB0.out⟩
  case round =>
    clear HB0 HR0 HS0 hIe hJe hI0 hJ0 hIm hJm
    obtain ⟨i, j, c, hi0, hj0, him, hjm, hg, rfl, rfl, HS, HP, HR, HB⟩ := hrel
    by_cases heq : i = j
    · subst heq
      have HSW := Lib.hid (swapRange_any fv base g N (m - i) m i c w0 wr HB.out HR.out (.inl (by omega)) (by omega) (by omega) hN)
      have hmi : ((m - i : Nat) : Int) = (m : Int) - (i : Int) := by omega
      rw [hmi] at HSW
      clear hmi
      go_wp2_with (go_at_call 174; refine HSW.out.mono ?_; rintro e w5 ⟨⟨v, rfl⟩, c', HS5, HP5, HR5, HB5⟩)
      go_end0
      exact ⟨⟨_, rfl⟩, c', HS.out _ (Rot.same him HS5.out), HP5.out.trans HP.out, HR5.out, HB5.out⟩
    · have hne : ((i : Int) != (j : Int)) = true := by simp; omega
      by_cases hgt : j < i
      · have HSW := Lib.hid (swapRange_any fv base g N (m - i) m j c w0 wr HB.out HR.out (.inl (by omega)) (by omega) (by omega) hN)
        have hmi : ((m - i : Nat) : Int) = (m : Int) - (i : Int) := by omega
        have HIJ := Lib.hid (show (i : Int) - (j : Int) = ((i - j : Nat) : Int) by omega)
        rw [hmi] at HSW
        have hgt2 : (j : Int) < (i : Int) := by omega
        clear hmi heq
        go_wp2_with (go_at_call 174; refine HSW.out.mono ?_; rintro e w5 ⟨⟨v, rfl⟩, c', HS5, HP5, HR5, HB5⟩)
        go_roundg (i - j + j)
        case measure => omega
        case rel => exact ⟨i - j, j, c', by omega, hj0, by omega, hjm, by omega, by rw [HIJ.out], rfl, fun t ht => HS.out t (Rot.great him hgt HS5.out ht), HP5.out.trans HP.out, HR5.out, HB5.out⟩
      · have hlt : i < j := by omega
        have HSW := Lib.hid (swapRange_any fv base g N (m - i) (m + j - i) i c w0 wr HB.out HR.out (.inl (by omega)) (by omega) (by omega) hN)
        have hmi : ((m - i : Nat) : Int) = (m : Int) - (i : Int) := by omega
        have hmj : ((m + j - i : Nat) : Int) = (m : Int) + (j : Int) - (i : Int) := by omega
        have HIJ := Lib.hid (show (j : Int) - (i : Int) = ((j - i : Nat) : Int) by omega)
        rw [hmi, hmj] at HSW
        have hgt2 : ¬ (j : Int) < (i : Int) := by omega
        clear hmi hmj heq
        go_wp2_with (go_at_call 174; refine HSW.out.mono ?_; rintro e w5 ⟨⟨v, rfl⟩, c', HS5, HP5, HR5, HB5⟩)
        go_roundg (i + (j - i))
        case measure => omega
        case rel => exact ⟨i, j - i, c', hi0, by omega, him, by omega, by omega, rfl, by rw [HIJ.out], fun t ht => HS.out t (Rot.less him hlt HS5.out ht), HP5.out.trans HP.out, HR5.out, HB5.out⟩

end Go.Proofs.YtfjplphdkfiljaaDoor
