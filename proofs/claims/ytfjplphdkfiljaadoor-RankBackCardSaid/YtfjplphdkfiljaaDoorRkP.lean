/-
  Walks of package rank: the plain rank.
-/
import Derived.Test.YtfjplphdkfiljaaDoorProg
import Derived.Test.YtfjplphdkfiljaaDoorRkB
import Derived.Test.YtfjplphdkfiljaaDoorRkE
namespace Go.Proofs.YtfjplphdkfiljaaDoor
open Go.Proofs Go.RowKit Go.Shelf

def plainL (n : Int) : List Int := if 4096 < n then [] else rngI n.toNat
theorem rngI_succ (k : Nat) : rngI (k + 1) = rngI k ++ [(k : Int)] := by unfold rngI; rw [List.range_succ, List.map_append]; rfl
theorem plainL_big {n : Int} (h : 4096 < n) : plainL n = [] := if_pos h
theorem plainL_of {n : Int} (h : ¬ 4096 < n) : plainL n = rngI n.toNat := if_neg h

/-- a row of numbers of one's own is handed back -/
def OwnPost (w : World) (r : List Int) (e : Ending) (w' : World) : Prop :=
  ∃ v, e = .returned v ∧ Aside (w'.ownsRow w.heap.size 3 1 v r.length (r.map encI)) ∧ Aside (Below w.heap.size w w')
theorem OwnPost.ints {w : World} {r : List Int} {e : Ending} {w' : World} (h : OwnPost w r e w') : IntsPost w r e w' := by
  obtain ⟨v, rfl, ho, hb⟩ := h
  obtain ⟨ao, cap, rfl, hc⟩ := Cel.of_owns (Hid.out ho)
  exact ⟨ao, cap, rfl, hc, hb⟩

set_option maxHeartbeats 1000000 in
theorem Plain_any (n : Int) (w : World) : Calls Tryd.prog 67 #[.int .i64 n] w (OwnPost w (plainL n)) := by
  by_cases hbig : 4096 < n
  · have HV := Lib.hid (plainL_big hbig)
    generalize plainL n = r at *
    go_enter Tryd.func67, Tryd.ntmps67
    go_wp2
    go_ret
    exact ⟨_, rfl, by rw [HV.out]; exact World.ownsRow_nil _ _ _ _, Below.refl _ _⟩
  · have HV := Lib.hid (plainL_of hbig)
    generalize plainL n = r at *
    obtain ⟨m, hm⟩ : ∃ m, m = n.toNat := ⟨_, rfl⟩
    rw [← hm] at HV
    have hmax : max n 0 = (m : Int) := by omega
    have hm2 : m ≤ 4096 := by omega
    have HL := Lib.hid (rngI_length m)
    clear hm
    go_enter Tryd.func67, Tryd.ntmps67
    go_wp2
    go_loopg [2, 8] m (fun gg v i wr => ∃ k : Nat, k ≤ m ∧ m - k ≤ gg ∧ i = .int .i64 k ∧ Aside (wr.ownsRow w.heap.size 3 1 v k ((rngI k).map encI)) ∧ Aside (Below w.heap.size w wr))
    case atStart => exact ⟨0, Nat.zero_le _, by omega, rfl, World.ownsRow_nil _ _ _ _, Below.refl _ _⟩
    case round =>
      obtain ⟨k, hk, hg, rfl, HO, HB⟩ := hrel
      by_cases hlt : k < m
      · have hlt3 : (k : Int) < (m : Int) := by omega
        have HS2 := Lib.hid (rngI_succ k)
        go_wp2_with (at_builtin; go_must ((with_reducible refine wpList_app w.heap.size 3 _ 1 8 elem_int Tryd.underlying69 _ k _ ⟨wr.heap.size, 0, none⟩ 1 1 [encI k] ?_ ?_ (HO.out.alloc _) (one_cell _ _ _) (one_int _) ⟨rfl, by decide, by omega, by omega, by have := HB.out.size; simp; omega⟩ ?_); (· rfl); (· rfl); intro g6 cap6 w6 hown hgrow hbl hat hlt6; (have HO6 := Lib.hid hown; have HB6 := Lib.hid hbl; clear hown hgrow hbl hat)))
        go_roundg (m - (k + 1))
        case measure => omega
        case rel => exact ⟨k + 1, by omega, by omega, by go_num, by rw [HS2.out, List.map_append]; exact HO6.out, (HB.out.al _).trans HB6.out⟩
      · obtain rfl : k = m := by omega
        go_wp2
        go_ret
        exact ⟨_, rfl, by rw [HV.out, HL.out]; exact HO.out, HB.out⟩

set_option maxHeartbeats 1000000 in
theorem refPlain_any (n : Int) (w : World) : Calls Tryd.prog 68 #[.int .i64 n] w (OwnPost w (plainL n)) := by
  by_cases hbig : 4096 < n
  · have HV := Lib.hid (plainL_big hbig)
    have h0 : (0 : Int) < n := by omega
    have h1 : ¬ n ≤ 4096 := by omega
    generalize plainL n = r at *
    go_enter Tryd.func68, Tryd.ntmps68
    go_wp2
    refine wp_loop_rounds 1 ?_
    rw [rounds_succ]
    go_wp2
    go_ret
    exact ⟨_, rfl, by rw [HV.out]; exact World.ownsRow_nil _ _ _ _, Below.refl _ _⟩
  · have HV := Lib.hid (plainL_of hbig)
    generalize plainL n = r at *
    obtain ⟨m, hm⟩ : ∃ m, m = n.toNat := ⟨_, rfl⟩
    rw [← hm] at HV
    have hm2 : m ≤ 4096 := by omega
    have h1 : n ≤ 4096 := by omega
    have HL := Lib.hid (rngI_length m)
    have HN := Lib.hid (show ∀ k : Nat, (k : Int) < n ↔ k < m by intro k; omega)
    clear hm hbig
    go_enter Tryd.func68, Tryd.ntmps68
    go_wp2
    go_loopg [3, 4] m (fun gg v i wr => ∃ k : Nat, k ≤ m ∧ m - k ≤ gg ∧ i = .int .i64 k ∧ Aside (wr.ownsRow w.heap.size 3 1 v k ((rngI k).map encI)) ∧ Aside (Below w.heap.size w wr))
    case atStart => exact ⟨0, Nat.zero_le _, by omega, rfl, World.ownsRow_nil _ _ _ _, Below.refl _ _⟩
    case round =>
      obtain ⟨k, hk, hg, rfl, HO, HB⟩ := hrel
      by_cases hlt : k < m
      · have hlt3 : (k : Int) < n := (HN.out k).2 hlt
        have HS2 := Lib.hid (rngI_succ k)
        go_wp2_with (at_builtin; go_must ((with_reducible refine wpList_app w.heap.size 3 _ 1 8 elem_int Tryd.underlying69 _ k _ ⟨wr.heap.size, 0, none⟩ 1 1 [encI k] ?_ ?_ (HO.out.alloc _) (one_cell _ _ _) (one_int _) ⟨rfl, by decide, by omega, by omega, by have := HB.out.size; simp; omega⟩ ?_); (· rfl); (· rfl); intro g6 cap6 w6 hown hgrow hbl hat hlt6; (have HO6 := Lib.hid hown; have HB6 := Lib.hid hbl; clear hown hgrow hbl hat)))
        go_roundg (m - (k + 1))
        case measure => omega
        case rel => exact ⟨k + 1, by omega, by omega, by go_num, by rw [HS2.out, List.map_append]; exact HO6.out, (HB.out.al _).trans HB6.out⟩
      · obtain rfl : k = m := by omega
        have hlt3 : ¬ (k : Int) < n := fun h => hlt ((HN.out k).1 h)
        go_wp2
        go_ret
        exact ⟨_, rfl, by rw [HV.out, HL.out]; exact HO.out, HB.out⟩

end Go.Proofs.YtfjplphdkfiljaaDoor
