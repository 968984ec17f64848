/-
  Walks of package cmd and its reference: the forms, the names, and which names are some.
  Walks of the reference of package cmd: the names, the limits, the kinds.
-/
import Derived.Test.YtelcmkccfjdmjaaDoorProg
import Derived.Test.YtelcmkccfjdmjaaDoorCmSpec
import Derived.Test.YtelcmkccfjdmjaaDoorSame
import Derived.Laws.EntriesVeiled
import Derived.Deep.WholeRow
namespace Go.Proofs.YtelcmkccfjdmjaaDoor
open Go Go.Proofs Go.RowKit Go.Shelf Go.Sort

theorem sIndexS_any (l : List ByteArray) (s : ByteArray) (ao : Option Addr) (cap : Nat) (w : World) (hl : l.length ≤ 9223372036854775807) (hc : Cel w ao (l.map encS)) :
    Calls Tryd.prog 51 #[.slice ao l.length cap, .string s] w fun e w' => e = .returned (.int .i64 (idxI (fun x => decide (x = s)) l)) ∧ w' = w := by
  have HC := Lib.hid hc
  have HN := Lib.hid (fun k (hlt : k < l.length) (h : l[k] = s) hm => idxI_hit (fun x => decide (x = s)) l k hlt (by simpa using h) hm)
  have HM := Lib.hid (fun hm => idxI_miss (fun x => decide (x = s)) l hm)
  clear hc
  generalize idxI (fun x => decide (x = s)) l = r at *
  go_enter Tryd.func51, Tryd.ntmps51
  go_wp2
  go_loopg [8] l.length (fun g i wr => ∃ k : Nat, k ≤ l.length ∧ l.length - k ≤ g ∧ i = .int .i64 k ∧ wr = w ∧ Aside (∀ j (h : j < l.length), j < k → decide (l[j] = s) = false))
  case atStart => exact ⟨0, Nat.zero_le _, by omega, rfl, rfl, fun j _ h => absurd h (Nat.not_lt_zero _)⟩
  case round =>
    obtain ⟨k, hk, hg, rfl, rfl, HA⟩ := hrel
    by_cases hlt : k < l.length
    · have hlt3 : (k : Int) < (l.length : Int) := by omega
      have hk0 : (0 : Int) ≤ (k : Int) := by omega
      obtain ⟨b, o, hao, hcell⟩ := HC.out.at hlt
      subst hao
      by_cases hq : l[k] = s
      · have HR := Lib.hid (HN.out k hlt hq (fun j h1 h2 => by have := HA.out j h1 h2; simpa using this))
        rw [hq] at hcell
        have hb : (s.toList == s.toList) = true := by simp
        clear hq
        go_wp2
        go_ret
        exact ⟨by rw [HR.out]; rfl, rfl⟩
      · have HA2 := Lib.hid (fun j (h1 : j < l.length) (h2 : j < k + 1) => (by
          by_cases e : j = k
          · subst e; simpa using hq
          · have := HA.out j h1 (by omega); simpa using this : decide (l[j] = s) = false))
        have hb : (s.toList == (l[k]).toList) = false := by
          rw [beq_eq_false_iff_ne]
          intro e
          rw [ByteArray.toList_eq, ByteArray.toList_eq] at e
          exact hq (Go.WideShapes.bytes_inj e.symm)
        clear hq
        generalize l[k] = x at *
        go_wp2
        go_roundg (l.length - (k + 1))
        case measure => omega
        case rel => exact ⟨k + 1, by omega, by omega, by go_num, rfl, fun j h1 h2 => by have := HA2.out j h1 h2; simpa using this⟩
    · obtain rfl : k = l.length := by omega
      have HR := Lib.hid (HM.out (fun j h => by have := HA.out j h h; simpa using this))
      go_wp2
      go_ret
      exact ⟨by rw [HR.out]; rfl, rfl⟩


theorem contains_any (l : List ByteArray) (s : ByteArray) (ao : Option Addr) (cap : Nat) (w : World) (hl : l.length ≤ 9223372036854775807) (hc : Cel w ao (l.map encS)) :
    Calls Tryd.prog 22 #[.slice ao l.length cap, .string s] w fun e w' => e = .returned (.bool (l.any fun x => decide (x = s))) ∧ w' = w := by
  have HI := Lib.hid (sIndexS_any l s ao cap w hl hc)
  have hm := idxI_any (fun x => decide (x = s)) l
  rw [← hm]
  generalize idxI (fun x => decide (x = s)) l = i at *
  clear hm hc
  go_enter Tryd.func22, Tryd.ntmps22
  go_wp2_with (go_at_call 51; refine HI.out.mono ?_; rintro e w1 ⟨rfl, rfl⟩)
  go_ret
  exact ⟨rfl, rfl⟩

def formA : Array Value := #[.string (cb [76, 79, 65, 68]), .string (cb []), .string (cb [66, 85, 73, 76, 68]), .string (cb []), .string (cb [82, 79, 85, 84, 69]), .string (cb [110, 110]), .string (cb [68, 73, 83, 84]), .string (cb [110, 110]), .string (cb [65, 76, 84]), .string (cb [110, 110, 107, 114, 114, 114]), .string (cb [75, 83, 80]), .string (cb [110, 110, 107]), .string (cb [80, 69, 78]), .string (cb [110, 110, 107, 111, 114, 114, 114, 114]),
  .string (cb [83, 69, 84, 87]), .string (cb [101, 119]), .string (cb [78, 69, 65, 82]), .string (cb [110, 97]), .string (cb [84, 79, 85, 82]), .string (cb []), .string (cb [83, 84, 65, 84]), .string (cb []), .string (cb [68, 85, 77, 80]), .string (cb []), .string (cb [81, 85, 73, 84]), .string (cb [])]
set_option maxRecDepth 100000 in
set_option maxHeartbeats 4000000 in
theorem cmdForms_any (w : World) : Calls Tryd.prog 32 #[] w fun e w' => e = .returned (.agg formA) ∧ Below w.heap.size w w' := by
  have hi : (Tryd.prog.info? 71).map (·.size) = some formA.size := by kernel_rfl
  have h1 : formA.all (·.oneCell') = true := by simp [formA, Value.oneCell']
  go_enter Tryd.func32, Tryd.ntmps32
  go_wp2_with ((with_reducible refine wpList_store_row rfl 71 (.tmp 0) (.tmp 14) rfl w.heap.size formA ?_ ?_ 71 _ (heap_alloc_last w _) hi ?_ h1 ?_); (· rfl); (· rfl); (· rfl); rw [World.setRow_alloc_new])
  generalize formA = fa at *
  refine bodyPost_ret (v := .agg fa) (results_cell_row Tryd.results32 _ _ w.heap.size 71 fa (0, 0) _ rfl (heap_alloc_last w _) Tryd.underlying71 rfl hi) rfl ⟨rfl, Below.of_al _ _⟩

theorem ext_two {α : Type} {l : Array α} {i : Nat} {x y : α} (hx : l[i]? = some x) (hy : l[i + 1]? = some y) : l.extract i (i + 2) = #[x, y] := by
  apply Array.ext_getElem?
  intro j
  rw [Array.getElem?_extract]
  have hlt := (Array.getElem?_eq_some_iff.1 hy).1
  rw [show min (i + 2) l.size - i = 2 by omega]
  match j with
  | 0 => simpa using hx
  | 1 => simpa using hy
  | j + 2 => simp; omega
theorem formA_at {k : Nat} (hk : k < formL.length) : formA[2 * k]? = some (.string formL[k].1) ∧ formA[2 * k + 1]? = some (.string formL[k].2) := by
  have h13 : formL.length = 13 := rfl
  have : k = 0 ∨ k = 1 ∨ k = 2 ∨ k = 3 ∨ k = 4 ∨ k = 5 ∨ k = 6 ∨ k = 7 ∨ k = 8 ∨ k = 9 ∨ k = 10 ∨ k = 11 ∨ k = 12 := by omega
  rcases this with rfl | rfl | rfl | rfl | rfl | rfl | rfl | rfl | rfl | rfl | rfl | rfl | rfl <;> exact ⟨rfl, rfl⟩
theorem run_idx_forms {k : Nat} {x y : Value} {w : World} (hk : k < 13) (hx : formA[2 * k]? = some x) (hy : formA[2 * k + 1]? = some y) :
    (Instr.index 71 (.agg formA) (.int .i64 (k : Int))).run Tryd.prog w = .ok (.agg #[x, y]) w := by
  have h : Tryd.prog.underlying 71 = some (.array 13 70) := by kernel_rfl
  have z := Tryd.sizeOf70
  have a := Tryd.isAgg70
  simp [Instr.index, run_underlying h, asIntOf, hk, go_sem, z, a]
  exact ext_two (i := k * 2) (by rw [Nat.mul_comm]; exact hx) (by rw [Nat.mul_comm]; exact hy)

theorem cm_elem : Elem Tryd.prog 9 (.string ByteArray.empty) 1 16 := ⟨by kernel_rfl, rfl, by decide⟩
theorem cm_ones (s : ByteArray) : ∀ u ∈ [encS s], u.oneCell' = true := by
  intro u hu
  rw [List.mem_singleton] at hu
  subst hu
  rfl
theorem cm_one_at (x : Value) (w : World) (T : TypeId) {k : Nat} (hk : k = w.heap.size) : ∀ j u, [x][j]? = some u → (w.alloc (.cells #[x] T)).cell? ((⟨k, 0, none⟩ : Addr).add j) = some u := by
  intro j u hu
  subst hk
  rw [Addr.add_lit]
  have := World.cell?_alloc_mark w #[x] T (0, 0) (0 + j)
  rw [this]
  simpa using hu
theorem cm_owns_go {w w' : World} {base : Nat} {e : TypeId} {size n : Nat} {v : Value} {xs : List Value} (h : w.ownsRow base e size v n xs) (hb : Below w.heap.size w w') : w'.ownsRow base e size v n xs := by
  refine ⟨h.1, ?_⟩
  rcases h.2 with h2 | ⟨g, cap, cur, hv, hbg, hg, r⟩
  · exact .inl h2
  · exact .inr ⟨g, cap, cur, hv, hbg, by rw [hb.block g (Array.getElem?_eq_some_iff.1 hg).1]; exact hg, r⟩

set_option maxRecDepth 100000 in
set_option maxHeartbeats 4000000 in
theorem cmdNames_any (w : World) : Calls Tryd.prog 11 #[] w fun e w' => ∃ ao cap, e = .returned (.slice ao 13 cap) ∧ Cel w' ao (nameL.map encS) ∧ Below w.heap.size w w' := by
  have HF := Lib.hid (fun W => cmdForms_any W)
  have HI := Lib.hid (fun k (hk : k < formL.length) W => run_idx_forms (k := k) (w := W) hk (formA_at hk).1 (formA_at hk).2)
  have HT := Lib.hid (fun k (hk : k < formL.length) => (show (nameL.take (k + 1)).map encS = (nameL.take k).map encS ++ [encS formL[k].1] by
    have h : k < nameL.length := by unfold nameL; rw [List.length_map]; exact hk
    rw [List.take_succ_eq_append_getElem h, List.map_append]
    simp [nameL]))
  have HZ := Lib.hid (fun k (hk : k < formL.length) => (show formL[k].1.size ≤ 10 by
    have h13 : ∀ p ∈ formL, p.1.size ≤ 10 := by decide
    exact h13 _ (List.getElem_mem hk)))
  have h13 : formL.length = 13 := rfl
  have HE := Lib.hid (show nameL.take 13 = nameL from rfl)
  generalize formA = fa at *
  generalize formL = fl at *
  generalize nameL = nl at *
  go_enter Tryd.func11, Tryd.ntmps11
  go_wp2_with (go_at_call 32; refine (HF.out _).mono ?_; rintro e w1 ⟨rfl, hb1⟩; have HB1 := Lib.hid hb1)
  go_loopg [0, 4] 13 (fun g v i wr => ∃ k : Nat, k ≤ 13 ∧ 13 - k ≤ g ∧ i = .int .i64 k ∧ Aside (wr.ownsRow w1.heap.size 9 1 v k ((nl.take k).map encS)) ∧ Aside (Below w1.heap.size w1 wr))
  case atStart => exact ⟨0, Nat.zero_le _, by omega, rfl, by rw [List.take_zero]; exact World.ownsRow_nil _ _ _ _, Below.refl _ _⟩
  case round =>
    obtain ⟨k, hk, hg, rfl, HO, HB⟩ := hrel
    have hk0 : (0 : Int) ≤ (k : Int) := by omega
    by_cases hlt : k < 13
    · have hlt3 : (k : Int) < 13 := by omega
      have hkl : k < fl.length := by omega
      have hrun := fun W => HI.out k hkl W
      have HT2 := Lib.hid (HT.out k hkl)
      generalize fl[k] = p at *
      obtain ⟨nm, kd⟩ := p
      simp only at hrun HT2
      go_wp2_with (at_builtin; go_must ((with_reducible refine wpList_app w1.heap.size 9 _ 1 16 cm_elem Tryd.underlying40 _ k _ ⟨wr.heap.size + 1, 0, none⟩ 1 1 [encS nm] ?_ ?_ ((HO.out.alloc _).alloc _) (cm_one_at _ _ _ (by simp)) (cm_ones _) ⟨rfl, by decide, by omega, by omega, by have := HB.out.size; simp; omega⟩ ?_); (· rfl); (· rfl); intro g6 cap6 w6 hown hgrow hbl hat hlt6; (have HO6 := Lib.hid hown; have HB6 := Lib.hid (((HB.out.al _).al _).trans hbl); clear hown hgrow hbl hat)))
      go_roundg (13 - (k + 1))
      case measure => omega
      case rel => exact ⟨k + 1, by omega, by omega, by go_num, by rw [HT2.out]; exact HO6.out, HB6.out⟩
    · obtain rfl : k = 13 := by omega
      go_wp2
      go_ret
      obtain ⟨ao9, cap9, e9, hc9⟩ := Cel.of_owns HO.out
      subst e9
      rw [HE.out] at hc9
      exact ⟨ao9, cap9, rfl, hc9, HB1.out.st HB.out⟩

end Go.Proofs.YtelcmkccfjdmjaaDoor

namespace Go.Proofs.YtelcmkccfjdmjaaDoor
open Go Go.Proofs Go.RowKit Go.Shelf Go.Sort

theorem refNames_any (w : World) : Calls Tryd.prog 12 #[] w fun e w' => e = .returned (.slice (some ⟨w.heap.size, 0, none⟩) 13 13) ∧ Cel w' (some ⟨w.heap.size, 0, none⟩) (nameL.map encS) ∧ Below w.heap.size w w' := by
  go_enter Tryd.func12, Tryd.ntmps12
  go_wp2
  go_ret
  exact ⟨rfl, cel_at rfl rfl, Below.of_al _ _⟩

set_option maxRecDepth 100000 in
theorem refKnown_any (s : ByteArray) (w : World) : Calls Tryd.prog 26 #[.string s] w fun e w' => e = .returned (.bool (isNm s)) ∧ Below w.heap.size w w' := by
  have HW := Lib.hid (fun W => refNames_any W)
  have HN := Lib.hid (fun k (hlt : k < nameL.length) (h : nameL[k] = s) => (show isNm s = true from List.any_eq_true.2 ⟨nameL[k], List.getElem_mem hlt, by simpa using h⟩))
  have HM := Lib.hid (fun (hm : ∀ j (h : j < nameL.length), decide (nameL[j] = s) = false) => (show isNm s = false from List.any_eq_false.2 fun x hx => by
    obtain ⟨j, hj, rfl⟩ := List.mem_iff_getElem.1 hx
    rw [hm j hj]
    simp))
  have hlen : nameL.length = 13 := rfl
  generalize isNm s = r at *
  generalize nameL = l at *
  go_enter Tryd.func26, Tryd.ntmps26
  go_wp2
  go_loopg [3] 13 (fun g i wr => ∃ k : Nat, k ≤ 13 ∧ 13 - k ≤ g ∧ i = .int .i64 k ∧ Aside (Below w.heap.size w wr) ∧ Aside (∀ j (h : j < l.length), j < k → decide (l[j] = s) = false))
  case atStart => exact ⟨0, Nat.zero_le _, by omega, rfl, Below.refl _ _, fun j _ h => absurd h (Nat.not_lt_zero _)⟩
  case round =>
    obtain ⟨k, hk, hg, rfl, HB, HA⟩ := hrel
    have hk0 : (0 : Int) ≤ (k : Int) := by omega
    by_cases hlt : k < 13
    · have hlt3 : (k : Int) < 13 := by omega
      have hltl : k < l.length := by omega
      have HC := Lib.hid (fun W b (h : Cel W (some ⟨b, 0, none⟩) (l.map encS)) => (by
        obtain ⟨b', o', e, hc⟩ := h.at hltl
        cases e
        rw [Nat.zero_add] at hc
        exact hc : W.cell? ⟨b, k, none⟩ = some (encS l[k])))
      by_cases hq : l[k] = s
      · have HR := Lib.hid (HN.out k hltl hq)
        rw [hq] at HC
        have hb : (s.toList == s.toList) = true := by simp
        clear hq hlen
        go_wp2_with fail
        refine (HW.out _).mono ?_
        rintro e w1 ⟨rfl, -, hb1⟩
        go_wp2_with fail
        refine (HW.out _).mono ?_
        rintro e w2 ⟨rfl, hc2, hb2⟩
        have hcell := HC.out _ _ hc2
        go_wp2
        go_ret
        exact ⟨by rw [HR.out]; rfl, (HB.out.st hb1).st hb2⟩
      · have HA2 := Lib.hid (fun j (h1 : j < l.length) (h2 : j < k + 1) => (by
          by_cases e : j = k
          · subst e; simpa using hq
          · exact HA.out j h1 (by omega) : decide (l[j] = s) = false))
        have hb : ((l[k]).toList == s.toList) = false := by
          rw [beq_eq_false_iff_ne]
          intro e
          rw [ByteArray.toList_eq, ByteArray.toList_eq] at e
          exact hq (Go.WideShapes.bytes_inj e)
        clear hq hlen
        generalize l[k] = x at *
        go_wp2_with fail
        refine (HW.out _).mono ?_
        rintro e w1 ⟨rfl, -, hb1⟩
        go_wp2_with fail
        refine (HW.out _).mono ?_
        rintro e w2 ⟨rfl, hc2, hb2⟩
        have hcell := HC.out _ _ hc2
        go_wp2
        go_roundg (13 - (k + 1))
        case measure => omega
        case rel => exact ⟨k + 1, by omega, by omega, by go_num, (HB.out.st hb1).st hb2, HA2.out⟩
    · obtain rfl : k = 13 := by omega
      have HR := Lib.hid (HM.out (fun j h => HA.out j h (by omega)))
      go_wp2_with (go_at_call 12; refine (HW.out _).mono ?_; rintro e w1 ⟨rfl, hc1, hb1⟩)
      go_ret
      exact ⟨by rw [HR.out]; rfl, HB.out.st hb1⟩

theorem refLimits_any (k : UInt8) (w : World) (hk : k = 110 ∨ k = 101 ∨ k = 107 ∨ k = 111) : Calls Tryd.prog 60 #[.int .u8 (k.toNat : Int)] w fun e w' => e = .returned (.tuple #[.int .i64 (leastC k), .int .i64 (mostC k)]) ∧ w' = w := by
  rcases hk with rfl | rfl | rfl | rfl <;>
  · go_enter Tryd.func60, Tryd.ntmps60
    go_wp2
    refine bodyPost_ret (by simp [results, Tryd.results60, go_sem]; try rfl) rfl ?_
    exact ⟨rfl, rfl⟩

theorem cm_byt {a c : ByteArray} {l : List UInt8} (hc : c.data.toList = l) : (a.toList == l) = decide (a = c) := by
  subst hc
  rw [ByteArray.toList_eq]
  by_cases h : a = c
  · subst h; simp
  · rw [decide_eq_false h, beq_eq_false_iff_ne]
    exact fun e => h (Go.WideShapes.bytes_inj e)

end Go.Proofs.YtelcmkccfjdmjaaDoor
