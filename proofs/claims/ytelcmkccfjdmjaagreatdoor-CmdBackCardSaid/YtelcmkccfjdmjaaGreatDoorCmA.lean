/-
  Walks of package cmd and its reference: the forms, the names, and which names are some.
  Walks of the reference of package cmd: the names, the limits, the kinds.
  Walk of the reference of package cmd: of what kinds the words behind a name are.
  Walk of package cmd: of what kinds the words behind a name are.
-/
import Derived.Test.YtelcmkccfjdmjaaGreatDoorProg
import Derived.Test.YtelcmkccfjdmjaaGreatDoorCmSpec
import Derived.Test.YtelcmkccfjdmjaaGreatDoorSame
import Derived.Laws.EntriesVeiled
import Derived.Deep.WholeRow
import Derived.Test.YtelcmkccfjdmjaaGreatDoorShelf2
namespace Go.Proofs.YtelcmkccfjdmjaaGreatDoor
open Go Go.Proofs Go.RowKit Go.Shelf Go.Sort

theorem sIndexS_any (l : List ByteArray) (s : ByteArray) (ao : Option Addr) (cap : Nat) (w : World) (hl : l.length ≤ 9223372036854775807) (hc : Cel w ao (l.map encS)) :
    Calls Tryz.prog 76 #[.slice ao l.length cap, .string s] w fun e w' => e = .returned (.int .i64 (idxI (fun x => decide (x = s)) l)) ∧ w' = w := by
  have HC := Lib.hid hc
  have HN := Lib.hid (fun k (hlt : k < l.length) (h : l[k] = s) hm => idxI_hit (fun x => decide (x = s)) l k hlt (by simpa using h) hm)
  have HM := Lib.hid (fun hm => idxI_miss (fun x => decide (x = s)) l hm)
  clear hc
  generalize idxI (fun x => decide (x = s)) l = r at *
  go_enter Tryz.func76, Tryz.ntmps76
  go_wp2
  go_loopg [8] l.length (fun g i wr => ∃ k : Nat, k ≤ l.length ∧ l.length - k ≤ g ∧ i = .int .i64 k ∧ wr = w ∧ Aside (∀ j (h : j < l.length), j < k → decide (l[j] = s) = false))
  case atStart => exact ⟨0, Nat.zero_le _, by omega, rfl, rfl, fun j _ h => absurd h (Nat.not_lt_zero _)⟩
  case round =>
    obtain ⟨k, hk, hg, rfl, rfl, HA⟩ := hrel
    by_cases hlt : k < l.length
    · have hlt3 : (k : Int) < (l.length : Int) := by omega
      have hk0 : (0 : Int) ≤ (k : Int) := by omega
      obtain ⟨b, o, hao, hcell⟩ := HC.out.at hlt
      subst hao
      by_cases hq : l[k] = s
      · have HR := Lib.hid (HN.out k hlt hq (fun j h1 h2 => by have := HA.out j h1 h2; simpa using this))
        rw [hq] at hcell
        have hb : (s.toList == s.toList) = true := by simp
        clear hq
        go_wp2
        go_ret
        exact ⟨by rw [HR.out]; rfl, rfl⟩
      · have HA2 := Lib.hid (fun j (h1 : j < l.length) (h2 : j < k + 1) => (by
          by_cases e : j = k
          · subst e; simpa using hq
          · have := HA.out j h1 (by omega); simpa using this : decide (l[j] = s) = false))
        have hb : (s.toList == (l[k]).toList) = false := by
          rw [beq_eq_false_iff_ne]
          intro e
          rw [ByteArray.toList_eq, ByteArray.toList_eq] at e
          exact hq (Go.WideShapes.bytes_inj e.symm)
        clear hq
        generalize l[k] = x at *
        go_wp2
        go_roundg (l.length - (k + 1))
        case measure => omega
        case rel => exact ⟨k + 1, by omega, by omega, by go_num, rfl, fun j h1 h2 => by have := HA2.out j h1 h2; simpa using this⟩
    · obtain rfl : k = l.length := by omega
      have HR := Lib.hid (HM.out (fun j h => by have := HA.out j h h; simpa using this))
      go_wp2
      go_ret
      exact ⟨by rw [HR.out]; rfl, rfl⟩


theorem contains_any (l : List ByteArray) (s : ByteArray) (ao : Option Addr) (cap : Nat) (w : World) (hl : l.length ≤ 9223372036854775807) (hc : Cel w ao (l.map encS)) :
    Calls Tryz.prog 71 #[.slice ao l.length cap, .string s] w fun e w' => e = .returned (.bool (l.any fun x => decide (x = s))) ∧ w' = w := by
  have HI := Lib.hid (sIndexS_any l s ao cap w hl hc)
  have hm := idxI_any (fun x => decide (x = s)) l
  rw [← hm]
  generalize idxI (fun x => decide (x = s)) l = i at *
  clear hm hc
  go_enter Tryz.func71, Tryz.ntmps71
  go_wp2_with (go_at_call 76; refine HI.out.mono ?_; rintro e w1 ⟨rfl, rfl⟩)
  go_ret
  exact ⟨rfl, rfl⟩

def formA : Array Value := #[.string (cb [76, 79, 65, 68]), .string (cb []), .string (cb [66, 85, 73, 76, 68]), .string (cb []), .string (cb [82, 79, 85, 84, 69]), .string (cb [110, 110]), .string (cb [68, 73, 83, 84]), .string (cb [110, 110]), .string (cb [65, 76, 84]), .string (cb [110, 110, 107, 114, 114, 114]), .string (cb [75, 83, 80]), .string (cb [110, 110, 107]), .string (cb [80, 69, 78]), .string (cb [110, 110, 107, 111, 114, 114, 114, 114]),
  .string (cb [83, 69, 84, 87]), .string (cb [101, 119]), .string (cb [78, 69, 65, 82]), .string (cb [110, 97]), .string (cb [84, 79, 85, 82]), .string (cb []), .string (cb [83, 84, 65, 84]), .string (cb []), .string (cb [68, 85, 77, 80]), .string (cb []), .string (cb [81, 85, 73, 84]), .string (cb [])]
set_option maxRecDepth 100000 in
set_option maxHeartbeats 4000000 in
theorem cmdForms_any (w : World) : Calls Tryz.prog 113 #[] w fun e w' => e = .returned (.agg formA) ∧ Below w.heap.size w w' := by
  have hi : (Tryz.prog.info? 152).map (·.size) = some formA.size := by kernel_rfl
  have h1 : formA.all (·.oneCell') = true := by simp [formA, Value.oneCell']
  go_enter Tryz.func113, Tryz.ntmps113
  go_wp2_with ((with_reducible refine wpList_store_row rfl 152 (.tmp 0) (.tmp 14) rfl w.heap.size formA ?_ ?_ 152 _ (heap_alloc_last w _) hi ?_ h1 ?_); (· rfl); (· rfl); (· rfl); rw [World.setRow_alloc_new])
  generalize formA = fa at *
  refine bodyPost_ret (v := .agg fa) (results_cell_row Tryz.results113 _ _ w.heap.size 152 fa (0, 0) _ rfl (heap_alloc_last w _) Tryz.underlying152 rfl hi) rfl ⟨rfl, Below.of_al _ _⟩

theorem ext_two {α : Type} {l : Array α} {i : Nat} {x y : α} (hx : l[i]? = some x) (hy : l[i + 1]? = some y) : l.extract i (i + 2) = #[x, y] := by
  apply Array.ext_getElem?
  intro j
  rw [Array.getElem?_extract]
  have hlt := (Array.getElem?_eq_some_iff.1 hy).1
  rw [show min (i + 2) l.size - i = 2 by omega]
  match j with
  | 0 => simpa using hx
  | 1 => simpa using hy
  | j + 2 => simp; omega
theorem formA_at {k : Nat} (hk : k < formL.length) : formA[2 * k]? = some (.string formL[k].1) ∧ formA[2 * k + 1]? = some (.string formL[k].2) := by
  have h13 : formL.length = 13 := rfl
  have : k = 0 ∨ k = 1 ∨ k = 2 ∨ k = 3 ∨ k = 4 ∨ k = 5 ∨ k = 6 ∨ k = 7 ∨ k = 8 ∨ k = 9 ∨ k = 10 ∨ k = 11 ∨ k = 12 := by omega
  rcases this with rfl | rfl | rfl | rfl | rfl | rfl | rfl | rfl | rfl | rfl | rfl | rfl | rfl <;> exact ⟨rfl, rfl⟩
theorem run_idx_forms {k : Nat} {x y : Value} {w : World} (hk : k < 13) (hx : formA[2 * k]? = some x) (hy : formA[2 * k + 1]? = some y) :
    (Instr.index 152 (.agg formA) (.int .i64 (k : Int))).run Tryz.prog w = .ok (.agg #[x, y]) w := by
  have h : Tryz.prog.underlying 152 = some (.array 13 151) := by kernel_rfl
  have z := Tryz.sizeOf151
  have a := Tryz.isAgg151
  simp [Instr.index, run_underlying h, asIntOf, hk, go_sem, z, a]
  exact ext_two (i := k * 2) (by rw [Nat.mul_comm]; exact hx) (by rw [Nat.mul_comm]; exact hy)

theorem cm_elem : Elem Tryz.prog 9 (.string ByteArray.empty) 1 16 := ⟨by kernel_rfl, rfl, by decide⟩
theorem cm_ones (s : ByteArray) : ∀ u ∈ [encS s], u.oneCell' = true := by
  intro u hu
  rw [List.mem_singleton] at hu
  subst hu
  rfl
theorem cm_one_at (x : Value) (w : World) (T : TypeId) {k : Nat} (hk : k = w.heap.size) : ∀ j u, [x][j]? = some u → (w.alloc (.cells #[x] T)).cell? ((⟨k, 0, none⟩ : Addr).add j) = some u := by
  intro j u hu
  subst hk
  rw [Addr.add_lit]
  have := World.cell?_alloc_mark w #[x] T (0, 0) (0 + j)
  rw [this]
  simpa using hu
theorem cm_owns_go {w w' : World} {base : Nat} {e : TypeId} {size n : Nat} {v : Value} {xs : List Value} (h : w.ownsRow base e size v n xs) (hb : Below w.heap.size w w') : w'.ownsRow base e size v n xs := by
  refine ⟨h.1, ?_⟩
  rcases h.2 with h2 | ⟨g, cap, cur, hv, hbg, hg, r⟩
  · exact .inl h2
  · exact .inr ⟨g, cap, cur, hv, hbg, by rw [hb.block g (Array.getElem?_eq_some_iff.1 hg).1]; exact hg, r⟩

set_option maxRecDepth 100000 in
set_option maxHeartbeats 4000000 in
theorem cmdNames_any (w : World) : Calls Tryz.prog 72 #[] w fun e w' => ∃ ao cap, e = .returned (.slice ao 13 cap) ∧ Cel w' ao (nameL.map encS) ∧ Below w.heap.size w w' := by
  have HF := Lib.hid (fun W => cmdForms_any W)
  have HI := Lib.hid (fun k (hk : k < formL.length) W => run_idx_forms (k := k) (w := W) hk (formA_at hk).1 (formA_at hk).2)
  have HT := Lib.hid (fun k (hk : k < formL.length) => (show (nameL.take (k + 1)).map encS = (nameL.take k).map encS ++ [encS formL[k].1] by
    have h : k < nameL.length := by unfold nameL; rw [List.length_map]; exact hk
    rw [List.take_succ_eq_append_getElem h, List.map_append]
    simp [nameL]))
  have HZ := Lib.hid (fun k (hk : k < formL.length) => (show formL[k].1.size ≤ 10 by
    have h13 : ∀ p ∈ formL, p.1.size ≤ 10 := by decide
    exact h13 _ (List.getElem_mem hk)))
  have h13 : formL.length = 13 := rfl
  have HE := Lib.hid (show nameL.take 13 = nameL from rfl)
  generalize formA = fa at *
  generalize formL = fl at *
  generalize nameL = nl at *
  go_enter Tryz.func72, Tryz.ntmps72
  go_wp2_with (go_at_call 113; refine (HF.out _).mono ?_; rintro e w1 ⟨rfl, hb1⟩; have HB1 := Lib.hid hb1)
  go_loopg [0, 4] 13 (fun g v i wr => ∃ k : Nat, k ≤ 13 ∧ 13 - k ≤ g ∧ i = .int .i64 k ∧ Aside (wr.ownsRow w1.heap.size 9 1 v k ((nl.take k).map encS)) ∧ Aside (Below w1.heap.size w1 wr))
  case atStart => exact ⟨0, Nat.zero_le _, by omega, rfl, by rw [List.take_zero]; exact World.ownsRow_nil _ _ _ _, Below.refl _ _⟩
  case round =>
    obtain ⟨k, hk, hg, rfl, HO, HB⟩ := hrel
    have hk0 : (0 : Int) ≤ (k : Int) := by omega
    by_cases hlt : k < 13
    · have hlt3 : (k : Int) < 13 := by omega
      have hkl : k < fl.length := by omega
      have hrun := fun W => HI.out k hkl W
      have HT2 := Lib.hid (HT.out k hkl)
      generalize fl[k] = p at *
      obtain ⟨nm, kd⟩ := p
      simp only at hrun HT2
      go_wp2_with (at_builtin; go_must ((with_reducible refine wpList_app w1.heap.size 9 _ 1 16 cm_elem Tryz.underlying26 _ k _ ⟨wr.heap.size + 1, 0, none⟩ 1 1 [encS nm] ?_ ?_ ((HO.out.alloc _).alloc _) (cm_one_at _ _ _ (by simp)) (cm_ones _) ⟨rfl, by decide, by omega, by omega, by have := HB.out.size; simp; omega⟩ ?_); (· rfl); (· rfl); intro g6 cap6 w6 hown hgrow hbl hat hlt6; (have HO6 := Lib.hid hown; have HB6 := Lib.hid (((HB.out.al _).al _).trans hbl); clear hown hgrow hbl hat)))
      go_roundg (13 - (k + 1))
      case measure => omega
      case rel => exact ⟨k + 1, by omega, by omega, by go_num, by rw [HT2.out]; exact HO6.out, HB6.out⟩
    · obtain rfl : k = 13 := by omega
      go_wp2
      go_ret
      obtain ⟨ao9, cap9, e9, hc9⟩ := Cel.of_owns HO.out
      subst e9
      rw [HE.out] at hc9
      exact ⟨ao9, cap9, rfl, hc9, HB1.out.st HB.out⟩

end Go.Proofs.YtelcmkccfjdmjaaGreatDoor

namespace Go.Proofs.YtelcmkccfjdmjaaGreatDoor
open Go Go.Proofs Go.RowKit Go.Shelf Go.Sort

theorem refNames_any (w : World) : Calls Tryz.prog 148 #[] w fun e w' => e = .returned (.slice (some ⟨w.heap.size, 0, none⟩) 13 13) ∧ Cel w' (some ⟨w.heap.size, 0, none⟩) (nameL.map encS) ∧ Below w.heap.size w w' := by
  go_enter Tryz.func148, Tryz.ntmps148
  go_wp2
  go_ret
  exact ⟨rfl, cel_at rfl rfl, Below.of_al _ _⟩

set_option maxRecDepth 100000 in
theorem refKnown_any (s : ByteArray) (w : World) : Calls Tryz.prog 107 #[.string s] w fun e w' => e = .returned (.bool (isNm s)) ∧ Below w.heap.size w w' := by
  have HW := Lib.hid (fun W => refNames_any W)
  have HN := Lib.hid (fun k (hlt : k < nameL.length) (h : nameL[k] = s) => (show isNm s = true from List.any_eq_true.2 ⟨nameL[k], List.getElem_mem hlt, by simpa using h⟩))
  have HM := Lib.hid (fun (hm : ∀ j (h : j < nameL.length), decide (nameL[j] = s) = false) => (show isNm s = false from List.any_eq_false.2 fun x hx => by
    obtain ⟨j, hj, rfl⟩ := List.mem_iff_getElem.1 hx
    rw [hm j hj]
    simp))
  have hlen : nameL.length = 13 := rfl
  generalize isNm s = r at *
  generalize nameL = l at *
  go_enter Tryz.func107, Tryz.ntmps107
  go_wp2
  go_loopg [3] 13 (fun g i wr => ∃ k : Nat, k ≤ 13 ∧ 13 - k ≤ g ∧ i = .int .i64 k ∧ Aside (Below w.heap.size w wr) ∧ Aside (∀ j (h : j < l.length), j < k → decide (l[j] = s) = false))
  case atStart => exact ⟨0, Nat.zero_le _, by omega, rfl, Below.refl _ _, fun j _ h => absurd h (Nat.not_lt_zero _)⟩
  case round =>
    obtain ⟨k, hk, hg, rfl, HB, HA⟩ := hrel
    have hk0 : (0 : Int) ≤ (k : Int) := by omega
    by_cases hlt : k < 13
    · have hlt3 : (k : Int) < 13 := by omega
      have hltl : k < l.length := by omega
      have HC := Lib.hid (fun W b (h : Cel W (some ⟨b, 0, none⟩) (l.map encS)) => (by
        obtain ⟨b', o', e, hc⟩ := h.at hltl
        cases e
        rw [Nat.zero_add] at hc
        exact hc : W.cell? ⟨b, k, none⟩ = some (encS l[k])))
      by_cases hq : l[k] = s
      · have HR := Lib.hid (HN.out k hltl hq)
        rw [hq] at HC
        have hb : (s.toList == s.toList) = true := by simp
        clear hq hlen
        go_wp2_with fail
        refine (HW.out _).mono ?_
        rintro e w1 ⟨rfl, -, hb1⟩
        go_wp2_with fail
        refine (HW.out _).mono ?_
        rintro e w2 ⟨rfl, hc2, hb2⟩
        have hcell := HC.out _ _ hc2
        go_wp2
        go_ret
        exact ⟨by rw [HR.out]; rfl, (HB.out.st hb1).st hb2⟩
      · have HA2 := Lib.hid (fun j (h1 : j < l.length) (h2 : j < k + 1) => (by
          by_cases e : j = k
          · subst e; simpa using hq
          · exact HA.out j h1 (by omega) : decide (l[j] = s) = false))
        have hb : ((l[k]).toList == s.toList) = false := by
          rw [beq_eq_false_iff_ne]
          intro e
          rw [ByteArray.toList_eq, ByteArray.toList_eq] at e
          exact hq (Go.WideShapes.bytes_inj e)
        clear hq hlen
        generalize l[k] = x at *
        go_wp2_with fail
        refine (HW.out _).mono ?_
        rintro e w1 ⟨rfl, -, hb1⟩
        go_wp2_with fail
        refine (HW.out _).mono ?_
        rintro e w2 ⟨rfl, hc2, hb2⟩
        have hcell := HC.out _ _ hc2
        go_wp2
        go_roundg (13 - (k + 1))
        case measure => omega
        case rel => exact ⟨k + 1, by omega, by omega, by go_num, (HB.out.st hb1).st hb2, HA2.out⟩
    · obtain rfl : k = 13 := by omega
      have HR := Lib.hid (HM.out (fun j h => HA.out j h (by omega)))
      go_wp2_with (go_at_call 148; refine (HW.out _).mono ?_; rintro e w1 ⟨rfl, hc1, hb1⟩)
      go_ret
      exact ⟨by rw [HR.out]; rfl, HB.out.st hb1⟩

theorem refLimits_any (k : UInt8) (w : World) (hk : k = 110 ∨ k = 101 ∨ k = 107 ∨ k = 111) : Calls Tryz.prog 151 #[.int .u8 (k.toNat : Int)] w fun e w' => e = .returned (.tuple #[.int .i64 (leastC k), .int .i64 (mostC k)]) ∧ w' = w := by
  rcases hk with rfl | rfl | rfl | rfl <;>
  · go_enter Tryz.func151, Tryz.ntmps151
    go_wp2
    refine bodyPost_ret (by simp [results, Tryz.results151, go_sem]; try rfl) rfl ?_
    exact ⟨rfl, rfl⟩

theorem cm_byt {a c : ByteArray} {l : List UInt8} (hc : c.data.toList = l) : (a.toList == l) = decide (a = c) := by
  subst hc
  rw [ByteArray.toList_eq]
  by_cases h : a = c
  · subst h; simp
  · rw [decide_eq_false h, beq_eq_false_iff_ne]
    exact fun e => h (Go.WideShapes.bytes_inj e)

end Go.Proofs.YtelcmkccfjdmjaaGreatDoor

namespace Go.Proofs.YtelcmkccfjdmjaaGreatDoor
open Go Go.Proofs Go.RowKit Go.Shelf Go.Sort

/-- what is told of the kinds behind a name -/
def KindPost (name : ByteArray) (n : Nat) (w : World) (e : Ending) (w' : World) : Prop :=
  ∃ s, e = .returned (.tuple #[.string s, .bool (kindsC name n).2]) ∧ ((kindsC name n).2 = true → s = (kindsC name n).1) ∧ Below w.heap.size w w'
theorem kindsC_form {name kd : ByteArray} {n : Nat} (h1 : name ≠ tourC) (h2 : formL.find? (fun p => decide (p.1 = name)) = some (name, kd)) : kindsC name n = (kd, decide (kd.size = n)) := by
  unfold kindsC
  rw [if_neg h1, h2]
theorem tourF (k : Nat) : cb (List.replicate (k + 1) 110) = cb (List.replicate k 110) ++ ⟨#[110]⟩ := by
  apply Go.WideShapes.bytes_inj
  unfold cb
  rw [List.replicate_succ']
  simp
theorem tourF_size (k : Nat) : (cb (List.replicate k 110)).size = k := by
  unfold cb
  simp [ByteArray.size]

set_option maxRecDepth 100000 in
theorem refKinds_ROUTE (n : Nat) (w : World) (hn : n ≤ 100000) : Calls Tryz.prog 110 #[.string (cb [82, 79, 85, 84, 69]), .int .i64 (n : Int)] w (KindPost (cb [82, 79, 85, 84, 69]) n w) := by
  have hk := kindsC_form (name := cb [82, 79, 85, 84, 69]) (kd := cb [110, 110]) (n := n) (by decide) (by decide)
  have hz : ((2 : Int) == (n : Int)) = decide ((cb [110, 110]).size = n) := by
    have hz2 : (cb [110, 110]).size = 2 := rfl
    rw [hz2]
    by_cases h : n = 2
    · subst h; rfl
    · rw [decide_eq_false (fun e => h e.symm), beq_eq_false_iff_ne]; omega
  unfold KindPost
  rw [hk]
  simp only
  generalize decide ((cb [110, 110]).size = n) = q at *
  obtain ⟨nm, hnm⟩ : ∃ nm, nm = cb [82, 79, 85, 84, 69] := ⟨_, rfl⟩
  rw [← hnm]
  have f0 : (nm.toList == ([82, 79, 85, 84, 69] : List UInt8)) = true := (cm_byt (a := nm) (c := cb [82, 79, 85, 84, 69]) (l := [82, 79, 85, 84, 69]) rfl).trans (by rw [hnm]; decide)
  have f1 : (nm.toList == ([68, 73, 83, 84] : List UInt8)) = false := (cm_byt (a := nm) (c := cb [68, 73, 83, 84]) (l := [68, 73, 83, 84]) rfl).trans (by rw [hnm]; decide)
  have f2 : (nm.toList == ([65, 76, 84] : List UInt8)) = false := (cm_byt (a := nm) (c := cb [65, 76, 84]) (l := [65, 76, 84]) rfl).trans (by rw [hnm]; decide)
  have f3 : (nm.toList == ([75, 83, 80] : List UInt8)) = false := (cm_byt (a := nm) (c := cb [75, 83, 80]) (l := [75, 83, 80]) rfl).trans (by rw [hnm]; decide)
  have f4 : (nm.toList == ([80, 69, 78] : List UInt8)) = false := (cm_byt (a := nm) (c := cb [80, 69, 78]) (l := [80, 69, 78]) rfl).trans (by rw [hnm]; decide)
  have f5 : (nm.toList == ([83, 69, 84, 87] : List UInt8)) = false := (cm_byt (a := nm) (c := cb [83, 69, 84, 87]) (l := [83, 69, 84, 87]) rfl).trans (by rw [hnm]; decide)
  have f6 : (nm.toList == ([78, 69, 65, 82] : List UInt8)) = false := (cm_byt (a := nm) (c := cb [78, 69, 65, 82]) (l := [78, 69, 65, 82]) rfl).trans (by rw [hnm]; decide)
  have f7 : (nm.toList == ([84, 79, 85, 82] : List UInt8)) = false := (cm_byt (a := nm) (c := cb [84, 79, 85, 82]) (l := [84, 79, 85, 82]) rfl).trans (by rw [hnm]; decide)
  clear hnm hk
  go_enter Tryz.func110, Tryz.ntmps110
  go_wp2
  refine bodyPost_ret (v := .tuple #[.string ⟨#[110, 110]⟩, .bool q]) (by simp [results, Tryz.results110, go_sem]; try rfl) rfl ?_
  exact ⟨_, rfl, fun _ => rfl, Below.refl _ _⟩

set_option maxRecDepth 100000 in
theorem refKinds_DIST (n : Nat) (w : World) (hn : n ≤ 100000) : Calls Tryz.prog 110 #[.string (cb [68, 73, 83, 84]), .int .i64 (n : Int)] w (KindPost (cb [68, 73, 83, 84]) n w) := by
  have hk := kindsC_form (name := cb [68, 73, 83, 84]) (kd := cb [110, 110]) (n := n) (by decide) (by decide)
  have hz : ((2 : Int) == (n : Int)) = decide ((cb [110, 110]).size = n) := by
    have hz2 : (cb [110, 110]).size = 2 := rfl
    rw [hz2]
    by_cases h : n = 2
    · subst h; rfl
    · rw [decide_eq_false (fun e => h e.symm), beq_eq_false_iff_ne]; omega
  unfold KindPost
  rw [hk]
  simp only
  generalize decide ((cb [110, 110]).size = n) = q at *
  obtain ⟨nm, hnm⟩ : ∃ nm, nm = cb [68, 73, 83, 84] := ⟨_, rfl⟩
  rw [← hnm]
  have f0 : (nm.toList == ([82, 79, 85, 84, 69] : List UInt8)) = false := (cm_byt (a := nm) (c := cb [82, 79, 85, 84, 69]) (l := [82, 79, 85, 84, 69]) rfl).trans (by rw [hnm]; decide)
  have f1 : (nm.toList == ([68, 73, 83, 84] : List UInt8)) = true := (cm_byt (a := nm) (c := cb [68, 73, 83, 84]) (l := [68, 73, 83, 84]) rfl).trans (by rw [hnm]; decide)
  have f2 : (nm.toList == ([65, 76, 84] : List UInt8)) = false := (cm_byt (a := nm) (c := cb [65, 76, 84]) (l := [65, 76, 84]) rfl).trans (by rw [hnm]; decide)
  have f3 : (nm.toList == ([75, 83, 80] : List UInt8)) = false := (cm_byt (a := nm) (c := cb [75, 83, 80]) (l := [75, 83, 80]) rfl).trans (by rw [hnm]; decide)
  have f4 : (nm.toList == ([80, 69, 78] : List UInt8)) = false := (cm_byt (a := nm) (c := cb [80, 69, 78]) (l := [80, 69, 78]) rfl).trans (by rw [hnm]; decide)
  have f5 : (nm.toList == ([83, 69, 84, 87] : List UInt8)) = false := (cm_byt (a := nm) (c := cb [83, 69, 84, 87]) (l := [83, 69, 84, 87]) rfl).trans (by rw [hnm]; decide)
  have f6 : (nm.toList == ([78, 69, 65, 82] : List UInt8)) = false := (cm_byt (a := nm) (c := cb [78, 69, 65, 82]) (l := [78, 69, 65, 82]) rfl).trans (by rw [hnm]; decide)
  have f7 : (nm.toList == ([84, 79, 85, 82] : List UInt8)) = false := (cm_byt (a := nm) (c := cb [84, 79, 85, 82]) (l := [84, 79, 85, 82]) rfl).trans (by rw [hnm]; decide)
  clear hnm hk
  go_enter Tryz.func110, Tryz.ntmps110
  go_wp2
  refine bodyPost_ret (v := .tuple #[.string ⟨#[110, 110]⟩, .bool q]) (by simp [results, Tryz.results110, go_sem]; try rfl) rfl ?_
  exact ⟨_, rfl, fun _ => rfl, Below.refl _ _⟩

set_option maxRecDepth 100000 in
theorem refKinds_ALT (n : Nat) (w : World) (hn : n ≤ 100000) : Calls Tryz.prog 110 #[.string (cb [65, 76, 84]), .int .i64 (n : Int)] w (KindPost (cb [65, 76, 84]) n w) := by
  have hk := kindsC_form (name := cb [65, 76, 84]) (kd := cb [110, 110, 107, 114, 114, 114]) (n := n) (by decide) (by decide)
  have hz : ((6 : Int) == (n : Int)) = decide ((cb [110, 110, 107, 114, 114, 114]).size = n) := by
    have hz2 : (cb [110, 110, 107, 114, 114, 114]).size = 6 := rfl
    rw [hz2]
    by_cases h : n = 6
    · subst h; rfl
    · rw [decide_eq_false (fun e => h e.symm), beq_eq_false_iff_ne]; omega
  unfold KindPost
  rw [hk]
  simp only
  generalize decide ((cb [110, 110, 107, 114, 114, 114]).size = n) = q at *
  obtain ⟨nm, hnm⟩ : ∃ nm, nm = cb [65, 76, 84] := ⟨_, rfl⟩
  rw [← hnm]
  have f0 : (nm.toList == ([82, 79, 85, 84, 69] : List UInt8)) = false := (cm_byt (a := nm) (c := cb [82, 79, 85, 84, 69]) (l := [82, 79, 85, 84, 69]) rfl).trans (by rw [hnm]; decide)
  have f1 : (nm.toList == ([68, 73, 83, 84] : List UInt8)) = false := (cm_byt (a := nm) (c := cb [68, 73, 83, 84]) (l := [68, 73, 83, 84]) rfl).trans (by rw [hnm]; decide)
  have f2 : (nm.toList == ([65, 76, 84] : List UInt8)) = true := (cm_byt (a := nm) (c := cb [65, 76, 84]) (l := [65, 76, 84]) rfl).trans (by rw [hnm]; decide)
  have f3 : (nm.toList == ([75, 83, 80] : List UInt8)) = false := (cm_byt (a := nm) (c := cb [75, 83, 80]) (l := [75, 83, 80]) rfl).trans (by rw [hnm]; decide)
  have f4 : (nm.toList == ([80, 69, 78] : List UInt8)) = false := (cm_byt (a := nm) (c := cb [80, 69, 78]) (l := [80, 69, 78]) rfl).trans (by rw [hnm]; decide)
  have f5 : (nm.toList == ([83, 69, 84, 87] : List UInt8)) = false := (cm_byt (a := nm) (c := cb [83, 69, 84, 87]) (l := [83, 69, 84, 87]) rfl).trans (by rw [hnm]; decide)
  have f6 : (nm.toList == ([78, 69, 65, 82] : List UInt8)) = false := (cm_byt (a := nm) (c := cb [78, 69, 65, 82]) (l := [78, 69, 65, 82]) rfl).trans (by rw [hnm]; decide)
  have f7 : (nm.toList == ([84, 79, 85, 82] : List UInt8)) = false := (cm_byt (a := nm) (c := cb [84, 79, 85, 82]) (l := [84, 79, 85, 82]) rfl).trans (by rw [hnm]; decide)
  clear hnm hk
  go_enter Tryz.func110, Tryz.ntmps110
  go_wp2
  refine bodyPost_ret (v := .tuple #[.string ⟨#[110, 110, 107, 114, 114, 114]⟩, .bool q]) (by simp [results, Tryz.results110, go_sem]; try rfl) rfl ?_
  exact ⟨_, rfl, fun _ => rfl, Below.refl _ _⟩

set_option maxRecDepth 100000 in
theorem refKinds_KSP (n : Nat) (w : World) (hn : n ≤ 100000) : Calls Tryz.prog 110 #[.string (cb [75, 83, 80]), .int .i64 (n : Int)] w (KindPost (cb [75, 83, 80]) n w) := by
  have hk := kindsC_form (name := cb [75, 83, 80]) (kd := cb [110, 110, 107]) (n := n) (by decide) (by decide)
  have hz : ((3 : Int) == (n : Int)) = decide ((cb [110, 110, 107]).size = n) := by
    have hz2 : (cb [110, 110, 107]).size = 3 := rfl
    rw [hz2]
    by_cases h : n = 3
    · subst h; rfl
    · rw [decide_eq_false (fun e => h e.symm), beq_eq_false_iff_ne]; omega
  unfold KindPost
  rw [hk]
  simp only
  generalize decide ((cb [110, 110, 107]).size = n) = q at *
  obtain ⟨nm, hnm⟩ : ∃ nm, nm = cb [75, 83, 80] := ⟨_, rfl⟩
  rw [← hnm]
  have f0 : (nm.toList == ([82, 79, 85, 84, 69] : List UInt8)) = false := (cm_byt (a := nm) (c := cb [82, 79, 85, 84, 69]) (l := [82, 79, 85, 84, 69]) rfl).trans (by rw [hnm]; decide)
  have f1 : (nm.toList == ([68, 73, 83, 84] : List UInt8)) = false := (cm_byt (a := nm) (c := cb [68, 73, 83, 84]) (l := [68, 73, 83, 84]) rfl).trans (by rw [hnm]; decide)
  have f2 : (nm.toList == ([65, 76, 84] : List UInt8)) = false := (cm_byt (a := nm) (c := cb [65, 76, 84]) (l := [65, 76, 84]) rfl).trans (by rw [hnm]; decide)
  have f3 : (nm.toList == ([75, 83, 80] : List UInt8)) = true := (cm_byt (a := nm) (c := cb [75, 83, 80]) (l := [75, 83, 80]) rfl).trans (by rw [hnm]; decide)
  have f4 : (nm.toList == ([80, 69, 78] : List UInt8)) = false := (cm_byt (a := nm) (c := cb [80, 69, 78]) (l := [80, 69, 78]) rfl).trans (by rw [hnm]; decide)
  have f5 : (nm.toList == ([83, 69, 84, 87] : List UInt8)) = false := (cm_byt (a := nm) (c := cb [83, 69, 84, 87]) (l := [83, 69, 84, 87]) rfl).trans (by rw [hnm]; decide)
  have f6 : (nm.toList == ([78, 69, 65, 82] : List UInt8)) = false := (cm_byt (a := nm) (c := cb [78, 69, 65, 82]) (l := [78, 69, 65, 82]) rfl).trans (by rw [hnm]; decide)
  have f7 : (nm.toList == ([84, 79, 85, 82] : List UInt8)) = false := (cm_byt (a := nm) (c := cb [84, 79, 85, 82]) (l := [84, 79, 85, 82]) rfl).trans (by rw [hnm]; decide)
  clear hnm hk
  go_enter Tryz.func110, Tryz.ntmps110
  go_wp2
  refine bodyPost_ret (v := .tuple #[.string ⟨#[110, 110, 107]⟩, .bool q]) (by simp [results, Tryz.results110, go_sem]; try rfl) rfl ?_
  exact ⟨_, rfl, fun _ => rfl, Below.refl _ _⟩

set_option maxRecDepth 100000 in
theorem refKinds_PEN (n : Nat) (w : World) (hn : n ≤ 100000) : Calls Tryz.prog 110 #[.string (cb [80, 69, 78]), .int .i64 (n : Int)] w (KindPost (cb [80, 69, 78]) n w) := by
  have hk := kindsC_form (name := cb [80, 69, 78]) (kd := cb [110, 110, 107, 111, 114, 114, 114, 114]) (n := n) (by decide) (by decide)
  have hz : ((8 : Int) == (n : Int)) = decide ((cb [110, 110, 107, 111, 114, 114, 114, 114]).size = n) := by
    have hz2 : (cb [110, 110, 107, 111, 114, 114, 114, 114]).size = 8 := rfl
    rw [hz2]
    by_cases h : n = 8
    · subst h; rfl
    · rw [decide_eq_false (fun e => h e.symm), beq_eq_false_iff_ne]; omega
  unfold KindPost
  rw [hk]
  simp only
  generalize decide ((cb [110, 110, 107, 111, 114, 114, 114, 114]).size = n) = q at *
  obtain ⟨nm, hnm⟩ : ∃ nm, nm = cb [80, 69, 78] := ⟨_, rfl⟩
  rw [← hnm]
  have f0 : (nm.toList == ([82, 79, 85, 84, 69] : List UInt8)) = false := (cm_byt (a := nm) (c := cb [82, 79, 85, 84, 69]) (l := [82, 79, 85, 84, 69]) rfl).trans (by rw [hnm]; decide)
  have f1 : (nm.toList == ([68, 73, 83, 84] : List UInt8)) = false := (cm_byt (a := nm) (c := cb [68, 73, 83, 84]) (l := [68, 73, 83, 84]) rfl).trans (by rw [hnm]; decide)
  have f2 : (nm.toList == ([65, 76, 84] : List UInt8)) = false := (cm_byt (a := nm) (c := cb [65, 76, 84]) (l := [65, 76, 84]) rfl).trans (by rw [hnm]; decide)
  have f3 : (nm.toList == ([75, 83, 80] : List UInt8)) = false := (cm_byt (a := nm) (c := cb [75, 83, 80]) (l := [75, 83, 80]) rfl).trans (by rw [hnm]; decide)
  have f4 : (nm.toList == ([80, 69, 78] : List UInt8)) = true := (cm_byt (a := nm) (c := cb [80, 69, 78]) (l := [80, 69, 78]) rfl).trans (by rw [hnm]; decide)
  have f5 : (nm.toList == ([83, 69, 84, 87] : List UInt8)) = false := (cm_byt (a := nm) (c := cb [83, 69, 84, 87]) (l := [83, 69, 84, 87]) rfl).trans (by rw [hnm]; decide)
  have f6 : (nm.toList == ([78, 69, 65, 82] : List UInt8)) = false := (cm_byt (a := nm) (c := cb [78, 69, 65, 82]) (l := [78, 69, 65, 82]) rfl).trans (by rw [hnm]; decide)
  have f7 : (nm.toList == ([84, 79, 85, 82] : List UInt8)) = false := (cm_byt (a := nm) (c := cb [84, 79, 85, 82]) (l := [84, 79, 85, 82]) rfl).trans (by rw [hnm]; decide)
  clear hnm hk
  go_enter Tryz.func110, Tryz.ntmps110
  go_wp2
  refine bodyPost_ret (v := .tuple #[.string ⟨#[110, 110, 107, 111, 114, 114, 114, 114]⟩, .bool q]) (by simp [results, Tryz.results110, go_sem]; try rfl) rfl ?_
  exact ⟨_, rfl, fun _ => rfl, Below.refl _ _⟩

set_option maxRecDepth 100000 in
theorem refKinds_SETW (n : Nat) (w : World) (hn : n ≤ 100000) : Calls Tryz.prog 110 #[.string (cb [83, 69, 84, 87]), .int .i64 (n : Int)] w (KindPost (cb [83, 69, 84, 87]) n w) := by
  have hk := kindsC_form (name := cb [83, 69, 84, 87]) (kd := cb [101, 119]) (n := n) (by decide) (by decide)
  have hz : ((2 : Int) == (n : Int)) = decide ((cb [101, 119]).size = n) := by
    have hz2 : (cb [101, 119]).size = 2 := rfl
    rw [hz2]
    by_cases h : n = 2
    · subst h; rfl
    · rw [decide_eq_false (fun e => h e.symm), beq_eq_false_iff_ne]; omega
  unfold KindPost
  rw [hk]
  simp only
  generalize decide ((cb [101, 119]).size = n) = q at *
  obtain ⟨nm, hnm⟩ : ∃ nm, nm = cb [83, 69, 84, 87] := ⟨_, rfl⟩
  rw [← hnm]
  have f0 : (nm.toList == ([82, 79, 85, 84, 69] : List UInt8)) = false := (cm_byt (a := nm) (c := cb [82, 79, 85, 84, 69]) (l := [82, 79, 85, 84, 69]) rfl).trans (by rw [hnm]; decide)
  have f1 : (nm.toList == ([68, 73, 83, 84] : List UInt8)) = false := (cm_byt (a := nm) (c := cb [68, 73, 83, 84]) (l := [68, 73, 83, 84]) rfl).trans (by rw [hnm]; decide)
  have f2 : (nm.toList == ([65, 76, 84] : List UInt8)) = false := (cm_byt (a := nm) (c := cb [65, 76, 84]) (l := [65, 76, 84]) rfl).trans (by rw [hnm]; decide)
  have f3 : (nm.toList == ([75, 83, 80] : List UInt8)) = false := (cm_byt (a := nm) (c := cb [75, 83, 80]) (l := [75, 83, 80]) rfl).trans (by rw [hnm]; decide)
  have f4 : (nm.toList == ([80, 69, 78] : List UInt8)) = false := (cm_byt (a := nm) (c := cb [80, 69, 78]) (l := [80, 69, 78]) rfl).trans (by rw [hnm]; decide)
  have f5 : (nm.toList == ([83, 69, 84, 87] : List UInt8)) = true := (cm_byt (a := nm) (c := cb [83, 69, 84, 87]) (l := [83, 69, 84, 87]) rfl).trans (by rw [hnm]; decide)
  have f6 : (nm.toList == ([78, 69, 65, 82] : List UInt8)) = false := (cm_byt (a := nm) (c := cb [78, 69, 65, 82]) (l := [78, 69, 65, 82]) rfl).trans (by rw [hnm]; decide)
  have f7 : (nm.toList == ([84, 79, 85, 82] : List UInt8)) = false := (cm_byt (a := nm) (c := cb [84, 79, 85, 82]) (l := [84, 79, 85, 82]) rfl).trans (by rw [hnm]; decide)
  clear hnm hk
  go_enter Tryz.func110, Tryz.ntmps110
  go_wp2
  refine bodyPost_ret (v := .tuple #[.string ⟨#[101, 119]⟩, .bool q]) (by simp [results, Tryz.results110, go_sem]; try rfl) rfl ?_
  exact ⟨_, rfl, fun _ => rfl, Below.refl _ _⟩

set_option maxRecDepth 100000 in
theorem refKinds_NEAR (n : Nat) (w : World) (hn : n ≤ 100000) : Calls Tryz.prog 110 #[.string (cb [78, 69, 65, 82]), .int .i64 (n : Int)] w (KindPost (cb [78, 69, 65, 82]) n w) := by
  have hk := kindsC_form (name := cb [78, 69, 65, 82]) (kd := cb [110, 97]) (n := n) (by decide) (by decide)
  have hz : ((2 : Int) == (n : Int)) = decide ((cb [110, 97]).size = n) := by
    have hz2 : (cb [110, 97]).size = 2 := rfl
    rw [hz2]
    by_cases h : n = 2
    · subst h; rfl
    · rw [decide_eq_false (fun e => h e.symm), beq_eq_false_iff_ne]; omega
  unfold KindPost
  rw [hk]
  simp only
  generalize decide ((cb [110, 97]).size = n) = q at *
  obtain ⟨nm, hnm⟩ : ∃ nm, nm = cb [78, 69, 65, 82] := ⟨_, rfl⟩
  rw [← hnm]
  have f0 : (nm.toList == ([82, 79, 85, 84, 69] : List UInt8)) = false := (cm_byt (a := nm) (c := cb [82, 79, 85, 84, 69]) (l := [82, 79, 85, 84, 69]) rfl).trans (by rw [hnm]; decide)
  have f1 : (nm.toList == ([68, 73, 83, 84] : List UInt8)) = false := (cm_byt (a := nm) (c := cb [68, 73, 83, 84]) (l := [68, 73, 83, 84]) rfl).trans (by rw [hnm]; decide)
  have f2 : (nm.toList == ([65, 76, 84] : List UInt8)) = false := (cm_byt (a := nm) (c := cb [65, 76, 84]) (l := [65, 76, 84]) rfl).trans (by rw [hnm]; decide)
  have f3 : (nm.toList == ([75, 83, 80] : List UInt8)) = false := (cm_byt (a := nm) (c := cb [75, 83, 80]) (l := [75, 83, 80]) rfl).trans (by rw [hnm]; decide)
  have f4 : (nm.toList == ([80, 69, 78] : List UInt8)) = false := (cm_byt (a := nm) (c := cb [80, 69, 78]) (l := [80, 69, 78]) rfl).trans (by rw [hnm]; decide)
  have f5 : (nm.toList == ([83, 69, 84, 87] : List UInt8)) = false := (cm_byt (a := nm) (c := cb [83, 69, 84, 87]) (l := [83, 69, 84, 87]) rfl).trans (by rw [hnm]; decide)
  have f6 : (nm.toList == ([78, 69, 65, 82] : List UInt8)) = true := (cm_byt (a := nm) (c := cb [78, 69, 65, 82]) (l := [78, 69, 65, 82]) rfl).trans (by rw [hnm]; decide)
  have f7 : (nm.toList == ([84, 79, 85, 82] : List UInt8)) = false := (cm_byt (a := nm) (c := cb [84, 79, 85, 82]) (l := [84, 79, 85, 82]) rfl).trans (by rw [hnm]; decide)
  clear hnm hk
  go_enter Tryz.func110, Tryz.ntmps110
  go_wp2
  refine bodyPost_ret (v := .tuple #[.string ⟨#[110, 97]⟩, .bool q]) (by simp [results, Tryz.results110, go_sem]; try rfl) rfl ?_
  exact ⟨_, rfl, fun _ => rfl, Below.refl _ _⟩

set_option maxRecDepth 100000 in
theorem refKinds_STAT (n : Nat) (w : World) (hn : n ≤ 100000) : Calls Tryz.prog 110 #[.string (cb [83, 84, 65, 84]), .int .i64 (n : Int)] w (KindPost (cb [83, 84, 65, 84]) n w) := by
  have hk := kindsC_form (name := cb [83, 84, 65, 84]) (kd := cb []) (n := n) (by decide) (by decide)
  have hz : ((0 : Int) == (n : Int)) = decide ((cb []).size = n) := by
    have hz2 : (cb []).size = 0 := rfl
    rw [hz2]
    by_cases h : n = 0
    · subst h; rfl
    · rw [decide_eq_false (fun e => h e.symm), beq_eq_false_iff_ne]; omega
  unfold KindPost
  rw [hk]
  simp only
  generalize decide ((cb []).size = n) = q at *
  obtain ⟨nm, hnm⟩ : ∃ nm, nm = cb [83, 84, 65, 84] := ⟨_, rfl⟩
  rw [← hnm]
  have f0 : (nm.toList == ([82, 79, 85, 84, 69] : List UInt8)) = false := (cm_byt (a := nm) (c := cb [82, 79, 85, 84, 69]) (l := [82, 79, 85, 84, 69]) rfl).trans (by rw [hnm]; decide)
  have f1 : (nm.toList == ([68, 73, 83, 84] : List UInt8)) = false := (cm_byt (a := nm) (c := cb [68, 73, 83, 84]) (l := [68, 73, 83, 84]) rfl).trans (by rw [hnm]; decide)
  have f2 : (nm.toList == ([65, 76, 84] : List UInt8)) = false := (cm_byt (a := nm) (c := cb [65, 76, 84]) (l := [65, 76, 84]) rfl).trans (by rw [hnm]; decide)
  have f3 : (nm.toList == ([75, 83, 80] : List UInt8)) = false := (cm_byt (a := nm) (c := cb [75, 83, 80]) (l := [75, 83, 80]) rfl).trans (by rw [hnm]; decide)
  have f4 : (nm.toList == ([80, 69, 78] : List UInt8)) = false := (cm_byt (a := nm) (c := cb [80, 69, 78]) (l := [80, 69, 78]) rfl).trans (by rw [hnm]; decide)
  have f5 : (nm.toList == ([83, 69, 84, 87] : List UInt8)) = false := (cm_byt (a := nm) (c := cb [83, 69, 84, 87]) (l := [83, 69, 84, 87]) rfl).trans (by rw [hnm]; decide)
  have f6 : (nm.toList == ([78, 69, 65, 82] : List UInt8)) = false := (cm_byt (a := nm) (c := cb [78, 69, 65, 82]) (l := [78, 69, 65, 82]) rfl).trans (by rw [hnm]; decide)
  have f7 : (nm.toList == ([84, 79, 85, 82] : List UInt8)) = false := (cm_byt (a := nm) (c := cb [84, 79, 85, 82]) (l := [84, 79, 85, 82]) rfl).trans (by rw [hnm]; decide)
  clear hnm hk
  go_enter Tryz.func110, Tryz.ntmps110
  go_wp2
  refine bodyPost_ret (v := .tuple #[.string ⟨#[]⟩, .bool q]) (by simp [results, Tryz.results110, go_sem]; try rfl) rfl ?_
  exact ⟨_, rfl, fun _ => rfl, Below.refl _ _⟩

set_option maxRecDepth 100000 in
theorem refKinds_DUMP (n : Nat) (w : World) (hn : n ≤ 100000) : Calls Tryz.prog 110 #[.string (cb [68, 85, 77, 80]), .int .i64 (n : Int)] w (KindPost (cb [68, 85, 77, 80]) n w) := by
  have hk := kindsC_form (name := cb [68, 85, 77, 80]) (kd := cb []) (n := n) (by decide) (by decide)
  have hz : ((0 : Int) == (n : Int)) = decide ((cb []).size = n) := by
    have hz2 : (cb []).size = 0 := rfl
    rw [hz2]
    by_cases h : n = 0
    · subst h; rfl
    · rw [decide_eq_false (fun e => h e.symm), beq_eq_false_iff_ne]; omega
  unfold KindPost
  rw [hk]
  simp only
  generalize decide ((cb []).size = n) = q at *
  obtain ⟨nm, hnm⟩ : ∃ nm, nm = cb [68, 85, 77, 80] := ⟨_, rfl⟩
  rw [← hnm]
  have f0 : (nm.toList == ([82, 79, 85, 84, 69] : List UInt8)) = false := (cm_byt (a := nm) (c := cb [82, 79, 85, 84, 69]) (l := [82, 79, 85, 84, 69]) rfl).trans (by rw [hnm]; decide)
  have f1 : (nm.toList == ([68, 73, 83, 84] : List UInt8)) = false := (cm_byt (a := nm) (c := cb [68, 73, 83, 84]) (l := [68, 73, 83, 84]) rfl).trans (by rw [hnm]; decide)
  have f2 : (nm.toList == ([65, 76, 84] : List UInt8)) = false := (cm_byt (a := nm) (c := cb [65, 76, 84]) (l := [65, 76, 84]) rfl).trans (by rw [hnm]; decide)
  have f3 : (nm.toList == ([75, 83, 80] : List UInt8)) = false := (cm_byt (a := nm) (c := cb [75, 83, 80]) (l := [75, 83, 80]) rfl).trans (by rw [hnm]; decide)
  have f4 : (nm.toList == ([80, 69, 78] : List UInt8)) = false := (cm_byt (a := nm) (c := cb [80, 69, 78]) (l := [80, 69, 78]) rfl).trans (by rw [hnm]; decide)
  have f5 : (nm.toList == ([83, 69, 84, 87] : List UInt8)) = false := (cm_byt (a := nm) (c := cb [83, 69, 84, 87]) (l := [83, 69, 84, 87]) rfl).trans (by rw [hnm]; decide)
  have f6 : (nm.toList == ([78, 69, 65, 82] : List UInt8)) = false := (cm_byt (a := nm) (c := cb [78, 69, 65, 82]) (l := [78, 69, 65, 82]) rfl).trans (by rw [hnm]; decide)
  have f7 : (nm.toList == ([84, 79, 85, 82] : List UInt8)) = false := (cm_byt (a := nm) (c := cb [84, 79, 85, 82]) (l := [84, 79, 85, 82]) rfl).trans (by rw [hnm]; decide)
  clear hnm hk
  go_enter Tryz.func110, Tryz.ntmps110
  go_wp2
  refine bodyPost_ret (v := .tuple #[.string ⟨#[]⟩, .bool q]) (by simp [results, Tryz.results110, go_sem]; try rfl) rfl ?_
  exact ⟨_, rfl, fun _ => rfl, Below.refl _ _⟩

set_option maxRecDepth 100000 in
theorem refKinds_QUIT (n : Nat) (w : World) (hn : n ≤ 100000) : Calls Tryz.prog 110 #[.string (cb [81, 85, 73, 84]), .int .i64 (n : Int)] w (KindPost (cb [81, 85, 73, 84]) n w) := by
  have hk := kindsC_form (name := cb [81, 85, 73, 84]) (kd := cb []) (n := n) (by decide) (by decide)
  have hz : ((0 : Int) == (n : Int)) = decide ((cb []).size = n) := by
    have hz2 : (cb []).size = 0 := rfl
    rw [hz2]
    by_cases h : n = 0
    · subst h; rfl
    · rw [decide_eq_false (fun e => h e.symm), beq_eq_false_iff_ne]; omega
  unfold KindPost
  rw [hk]
  simp only
  generalize decide ((cb []).size = n) = q at *
  obtain ⟨nm, hnm⟩ : ∃ nm, nm = cb [81, 85, 73, 84] := ⟨_, rfl⟩
  rw [← hnm]
  have f0 : (nm.toList == ([82, 79, 85, 84, 69] : List UInt8)) = false := (cm_byt (a := nm) (c := cb [82, 79, 85, 84, 69]) (l := [82, 79, 85, 84, 69]) rfl).trans (by rw [hnm]; decide)
  have f1 : (nm.toList == ([68, 73, 83, 84] : List UInt8)) = false := (cm_byt (a := nm) (c := cb [68, 73, 83, 84]) (l := [68, 73, 83, 84]) rfl).trans (by rw [hnm]; decide)
  have f2 : (nm.toList == ([65, 76, 84] : List UInt8)) = false := (cm_byt (a := nm) (c := cb [65, 76, 84]) (l := [65, 76, 84]) rfl).trans (by rw [hnm]; decide)
  have f3 : (nm.toList == ([75, 83, 80] : List UInt8)) = false := (cm_byt (a := nm) (c := cb [75, 83, 80]) (l := [75, 83, 80]) rfl).trans (by rw [hnm]; decide)
  have f4 : (nm.toList == ([80, 69, 78] : List UInt8)) = false := (cm_byt (a := nm) (c := cb [80, 69, 78]) (l := [80, 69, 78]) rfl).trans (by rw [hnm]; decide)
  have f5 : (nm.toList == ([83, 69, 84, 87] : List UInt8)) = false := (cm_byt (a := nm) (c := cb [83, 69, 84, 87]) (l := [83, 69, 84, 87]) rfl).trans (by rw [hnm]; decide)
  have f6 : (nm.toList == ([78, 69, 65, 82] : List UInt8)) = false := (cm_byt (a := nm) (c := cb [78, 69, 65, 82]) (l := [78, 69, 65, 82]) rfl).trans (by rw [hnm]; decide)
  have f7 : (nm.toList == ([84, 79, 85, 82] : List UInt8)) = false := (cm_byt (a := nm) (c := cb [84, 79, 85, 82]) (l := [84, 79, 85, 82]) rfl).trans (by rw [hnm]; decide)
  clear hnm hk
  go_enter Tryz.func110, Tryz.ntmps110
  go_wp2
  refine bodyPost_ret (v := .tuple #[.string ⟨#[]⟩, .bool q]) (by simp [results, Tryz.results110, go_sem]; try rfl) rfl ?_
  exact ⟨_, rfl, fun _ => rfl, Below.refl _ _⟩

set_option maxRecDepth 100000 in
theorem refKinds_TOUR (n : Nat) (w : World) (hn : n ≤ 100000) : Calls Tryz.prog 110 #[.string (cb [84, 79, 85, 82]), .int .i64 (n : Int)] w (KindPost (cb [84, 79, 85, 82]) n w) := by
  have hk : kindsC (cb [84, 79, 85, 82]) n = (cb (List.replicate n 110), decide (2 ≤ n) && decide (n ≤ 20)) := if_pos rfl
  unfold KindPost
  rw [hk]
  simp only
  obtain ⟨nm, hnm⟩ : ∃ nm, nm = cb [84, 79, 85, 82] := ⟨_, rfl⟩
  rw [← hnm]
  have f0 : (nm.toList == ([82, 79, 85, 84, 69] : List UInt8)) = false := (cm_byt (a := nm) (c := cb [82, 79, 85, 84, 69]) (l := [82, 79, 85, 84, 69]) rfl).trans (by rw [hnm]; decide)
  have f1 : (nm.toList == ([68, 73, 83, 84] : List UInt8)) = false := (cm_byt (a := nm) (c := cb [68, 73, 83, 84]) (l := [68, 73, 83, 84]) rfl).trans (by rw [hnm]; decide)
  have f2 : (nm.toList == ([65, 76, 84] : List UInt8)) = false := (cm_byt (a := nm) (c := cb [65, 76, 84]) (l := [65, 76, 84]) rfl).trans (by rw [hnm]; decide)
  have f3 : (nm.toList == ([75, 83, 80] : List UInt8)) = false := (cm_byt (a := nm) (c := cb [75, 83, 80]) (l := [75, 83, 80]) rfl).trans (by rw [hnm]; decide)
  have f4 : (nm.toList == ([80, 69, 78] : List UInt8)) = false := (cm_byt (a := nm) (c := cb [80, 69, 78]) (l := [80, 69, 78]) rfl).trans (by rw [hnm]; decide)
  have f5 : (nm.toList == ([83, 69, 84, 87] : List UInt8)) = false := (cm_byt (a := nm) (c := cb [83, 69, 84, 87]) (l := [83, 69, 84, 87]) rfl).trans (by rw [hnm]; decide)
  have f6 : (nm.toList == ([78, 69, 65, 82] : List UInt8)) = false := (cm_byt (a := nm) (c := cb [78, 69, 65, 82]) (l := [78, 69, 65, 82]) rfl).trans (by rw [hnm]; decide)
  have f7 : (nm.toList == ([84, 79, 85, 82] : List UInt8)) = true := (cm_byt (a := nm) (c := cb [84, 79, 85, 82]) (l := [84, 79, 85, 82]) rfl).trans (by rw [hnm]; decide)
  clear hnm hk
  by_cases h2 : n < 2
  · have h2' : (n : Int) < 2 := by omega
    rw [decide_eq_false (show ¬ 2 ≤ n by omega)]
    go_enter Tryz.func110, Tryz.ntmps110
    go_wp2
    refine bodyPost_ret (v := .tuple #[.string ⟨#[]⟩, .bool false]) (by simp [results, Tryz.results110, go_sem]; try rfl) rfl ?_
    first | exact ⟨⟨#[]⟩, rfl, (fun h => by simp at h), Below.refl _ _⟩ | exact ⟨⟨⟨#[]⟩, rfl⟩, Below.refl _ _⟩
  · have h2' : ¬ (n : Int) < 2 := by omega
    by_cases h20 : 20 < n
    · have h20' : (20 : Int) < (n : Int) := by omega
      rw [decide_eq_false (show ¬ n ≤ 20 by omega), Bool.and_false]
      go_enter Tryz.func110, Tryz.ntmps110
      go_wp2
      refine bodyPost_ret (v := .tuple #[.string ⟨#[]⟩, .bool false]) (by simp [results, Tryz.results110, go_sem]; try rfl) rfl ?_
      first | exact ⟨⟨#[]⟩, rfl, (fun h => by simp at h), Below.refl _ _⟩ | exact ⟨⟨⟨#[]⟩, rfl⟩, Below.refl _ _⟩
    · have h20' : ¬ (20 : Int) < (n : Int) := by omega
      rw [decide_eq_true (show 2 ≤ n by omega), decide_eq_true (show n ≤ 20 by omega)]
      obtain ⟨F, hF⟩ : ∃ F : Nat → ByteArray, F = fun k => cb (List.replicate k 110) := ⟨_, rfl⟩
      have HF := Lib.hid (fun k => (show F (k + 1) = F k ++ ⟨#[110]⟩ by rw [hF]; exact tourF k))
      have HZ := Lib.hid (fun k => (show (F k).size = k by rw [hF]; exact tourF_size k))
      have HF0 := Lib.hid (show F 0 = ⟨#[]⟩ by rw [hF]; rfl)
      have HFN := Lib.hid (show cb (List.replicate n 110) = F n by rw [hF])
      clear hF
      go_enter Tryz.func110, Tryz.ntmps110
      go_wp2
      go_loopg [6, 7] n (fun g v6 v7 wr => ∃ k : Nat, k ≤ n ∧ n - k ≤ g ∧ v7 = .int .i64 k ∧ v6 = .string (F k) ∧ wr = w)
      case atStart => exact ⟨0, Nat.zero_le _, by omega, rfl, by rw [HF0.out], rfl⟩
      case round =>
        obtain ⟨k, hk, hg, rfl, rfl, rfl⟩ := hrel
        have hzk := HZ.out k
        by_cases hlt : k < n
        · have hlt3 : (k : Int) < (n : Int) := by omega
          have HX := Lib.hid (HF.out k)
          have hzk2 : (F k).size ≤ 20 := by omega
          generalize F k = x at *
          clear hzk
          go_wp2
          go_roundg (n - (k + 1))
          case measure => omega
          case rel => exact ⟨k + 1, by omega, by omega, by go_num, by rw [HX.out], rfl⟩
        · obtain rfl : k = n := by omega
          have hq : (((F k).size : Int) == (k : Int)) = true := by rw [hzk]; simp
          clear hzk
          go_wp2
          refine bodyPost_ret (v := .tuple #[.string (F k), .bool true]) (by simp [results, Tryz.results110, go_sem]; try rfl) rfl ?_
          exact ⟨_, rfl, fun _ => HFN.out.symm, Below.refl _ _⟩

end Go.Proofs.YtelcmkccfjdmjaaGreatDoor

namespace Go.Proofs.YtelcmkccfjdmjaaGreatDoor
open Go Go.Proofs Go.RowKit Go.Shelf Go.Sort

abbrev FmP := ByteArray × ByteArray
abbrev encFm (p : FmP) : Value := .agg #[.string p.1, .string p.2]
def flatF : List FmP → List Value
  | [] => []
  | p :: l => .string p.1 :: .string p.2 :: flatF l
theorem flatF_at : ∀ (ps : List FmP) (i : Nat) (h : i < ps.length), (flatF ps)[i * 2]? = some (.string ps[i].1) ∧ (flatF ps)[i * 2 + 1]? = some (.string ps[i].2)
  | p :: l, 0, _ => ⟨rfl, rfl⟩
  | p :: l, i + 1, h => by
    have := flatF_at l i (by simpa using h)
    have e1 : (i + 1) * 2 = i * 2 + 1 + 1 := by omega
    rw [e1]
    exact this
theorem Cel.fm {w : World} {ao : Option Addr} {ps : List FmP} (h : Cel w ao (flatF ps)) {i : Nat} (hi : i < ps.length) :
    ∃ b o, ao = some ⟨b, o, none⟩ ∧ w.cell? ⟨b, o + i * 2, none⟩ = some (.string ps[i].1) ∧ w.cell? ⟨b, o + i * 2 + 1, none⟩ = some (.string ps[i].2) := by
  obtain ⟨h1, h2⟩ := flatF_at ps i hi
  obtain ⟨b, o, e, c1⟩ := h _ _ h1
  obtain ⟨b', o', e', c2⟩ := h _ _ h2
  rw [e] at e'
  cases e'
  exact ⟨b, o, e, c1, by rw [Nat.add_assoc]; exact c2⟩
theorem formA_flat : formA.toList = flatF formL := rfl

set_option maxHeartbeats 400000 in
theorem IndexFunc_fm (g : Nat) (cb : Array Value) (p : FmP → Bool) (ao : Option Addr) (cap : Nat) (l : List FmP) (w : World) (hen : Enters Tryz.prog g)
    (hp : PredOn Tryz.prog g cb encFm p l w) (hl : l.length ≤ 9223372036854775807) (hc : Cel w ao (flatF l)) :
    Calls Tryz.prog 155 #[.slice ao l.length cap, .func (.func g) #[] cb] w fun e w' => e = .returned (.int .i64 (idxI p l)) ∧ Below w.heap.size w w' := by
  have HP := Lib.hid hp
  have HC := Lib.hid hc
  clear hp hc
  unfold Enters at hen
  go_enter Tryz.func155, Tryz.ntmps155
  go_wp2
  go_loopg [8] l.length (fun g i wr => ∃ k : Nat, k ≤ l.length ∧ l.length - k ≤ g ∧ i = .int .i64 k ∧ Aside (Below w.heap.size w wr) ∧ Aside (∀ j (h : j < l.length), j < k → p l[j] = false))
  case atStart => exact ⟨0, Nat.zero_le _, by omega, rfl, Below.refl _ _, fun j _ h => absurd h (Nat.not_lt_zero _)⟩
  case round =>
    obtain ⟨k, hk, hg, rfl, HB, HA⟩ := hrel
    by_cases hlt : k < l.length
    · obtain ⟨b, o, hao, hcell, hcell2⟩ := (HC.out.below HB.out (Nat.le_refl _)).fm hlt
      have HQ := Lib.hid (HP.out wr l[k] HB.out (List.getElem_mem hlt))
      have HN := Lib.hid (fun h : p l[k] = true => idxI_hit p l k hlt h (fun j h1 h2 => HA.out j h1 h2))
      have HM := Lib.hid (fun h : p l[k] = false => (fun j (h1 : j < l.length) (h2 : j < k + 1) => (by
        by_cases e : j = k
        · subst e; exact h
        · exact HA.out j h1 (by omega) : p l[j] = false)))
      generalize hx : l[k] = x at *
      clear hx
      subst hao
      cases hq : p x with
      | true =>
        have HN2 := Lib.hid (HN.out hq)
        have HQ2 := Lib.hid (hq ▸ HQ.out)
        clear hq
        go_wp2_with (go_at_fn g; refine HQ2.out.mono ?_; rintro e w1 ⟨rfl, hb1⟩)
        go_ret
        exact ⟨by rw [HN2.out]; rfl, HB.out.trans (hb1.mono (by have := HB.out.size; omega))⟩
      | false =>
        have HN2 := Lib.hid (HM.out hq)
        have HQ2 := Lib.hid (hq ▸ HQ.out)
        clear hq
        go_wp2_with (go_at_fn g; refine HQ2.out.mono ?_; rintro e w1 ⟨rfl, hb1⟩)
        go_roundg (l.length - (k + 1))
        case measure => omega
        case rel => exact ⟨k + 1, by omega, by omega, by go_num, HB.out.trans (hb1.mono (by have := HB.out.size; omega)), HN2.out⟩
    · obtain rfl : k = l.length := by omega
      have HN := Lib.hid (idxI_miss p l (fun j h => HA.out j h h))
      go_wp2
      go_ret
      exact ⟨by rw [HN.out]; rfl, HB.out⟩

theorem cmdKinds1_any (p : FmP) (name : ByteArray) (C : Nat) (w : World) (hc : w.cell? ⟨C, 0, none⟩ = some (.string name)) : Calls Tryz.prog 156 (#[encFm p] ++ #[.pointer (some ⟨C, 0, none⟩)]) w fun e w' => e = .returned (.bool (decide (p.1 = name))) ∧ Below w.heap.size w w' := by
  obtain ⟨a, b⟩ := p
  have hb : (a.toList == name.toList) = decide (a = name) := cm_byt (by rw [ByteArray.toList_eq])
  have hca := fun O => cell_later (Below.of_al w O) hc
  simp only
  generalize decide (a = name) = q at *
  go_enter Tryz.func156, Tryz.ntmps156
  go_wp2
  go_ret
  exact ⟨by first | rfl | simp [hb], Below.of_al _ _⟩

set_option maxRecDepth 100000 in
set_option maxHeartbeats 4000000 in
theorem cmdKinds_form (name kd : ByteArray) (k n : Nat) (w : World) (hn : n ≤ 100000) (hk : k < formL.length) (hat : formL[k] = (name, kd)) (hne : name ≠ tourC) (hi : idxI (fun p : FmP => decide (p.1 = name)) formL = (k : Int)) (hf : formL.find? (fun p => decide (p.1 = name)) = some (name, kd)) (hkz : kd.size ≤ 10) :
    Calls Tryz.prog 116 #[.string name, .int .i64 (n : Int)] w (KindPost name n w) := by
  have hkc := kindsC_form (n := n) hne hf
  have HFO := Lib.hid (fun W => cmdForms_any W)
  have hinf : (Tryz.prog.info? 152).map (·.size) = some formA.size := by kernel_rfl
  have h1c : formA.all (·.oneCell') = true := by simp [formA, Value.oneCell']
  have HFL := Lib.hid (show formA.toList = flatF formL from formA_flat)
  have HIX := Lib.hid (fun b W (hc : W.cell? ⟨w.heap.size, 0, none⟩ = some (.string name)) (h : Cel W (some ⟨b, 0, none⟩) (flatF formL)) => (by
    have hh := IndexFunc_fm 156 #[.pointer (some ⟨w.heap.size, 0, none⟩)] (fun p => decide (p.1 = name)) (some ⟨b, 0, none⟩) 13 formL W (enters_of Tryz.func156 (by kernel_rfl) rfl) (fun W' p hb' _ => cmdKinds1_any p name w.heap.size W' (cell_later hb' hc)) (by decide) h
    rw [hi] at hh
    exact hh : Calls Tryz.prog 155 #[.slice (some ⟨b, 0, none⟩) 13 13, .func (.func 156) #[] #[.pointer (some ⟨w.heap.size, 0, none⟩)]] W fun e w' => e = .returned (.int .i64 (k : Int)) ∧ Below W.heap.size W w'))
  have HAT := Lib.hid (fun W b (h : Cel W (some ⟨b, 0, none⟩) (flatF formL)) => (by
    obtain ⟨b', o', e, c1, c2⟩ := h.fm hk
    cases e
    rw [hat] at c2
    rw [Nat.zero_add] at c2
    exact c2 : W.cell? ⟨b, k * 2 + 1, none⟩ = some (.string kd)))
  have hk13 : k < 13 := hk
  have hk14 : (k : Int) < 13 := by omega
  have hk0 : (0 : Int) ≤ (k : Int) := by omega
  have htr : (name.toList == ([84, 79, 85, 82] : List UInt8)) = false := (cm_byt (a := name) (c := tourC) (l := [84, 79, 85, 82]) rfl).trans (decide_eq_false hne)
  have hz : ((kd.size : Int) == (n : Int)) = decide (kd.size = n) := by
    by_cases h : kd.size = n
    · rw [decide_eq_true h, beq_iff_eq]; omega
    · rw [decide_eq_false h, beq_eq_false_iff_ne]; omega
  have hfz := Lib.hid (show formA.size = 26 from rfl)
  unfold KindPost
  rw [hkc]
  simp only
  generalize decide (kd.size = n) = q at *
  generalize formA = fa at *
  generalize flatF formL = ff at *
  clear hkc hf hi hne hat hk
  go_enter Tryz.func116, Tryz.ntmps116
  go_wp2_with (first
    | (go_at_call 113; refine (HFO.out _).mono ?_; rintro e w1 ⟨rfl, hb1⟩; (have HN1 := Lib.hid (cell_later hb1 (show (w.alloc (Obj.cells #[.string name] 9)).cell? ⟨w.heap.size, 0, none⟩ = some (.string name) by go_simp)); have HB1 := Lib.hid ((Below.of_al _ _).st hb1)))
    | ((with_reducible refine wpList_store_row rfl 152 (.tmp 6) (.tmp 19) rfl w1.heap.size fa ?_ ?_ 152 _ (heap_alloc_last w1 _) hinf ?_ h1c ?_); (· rfl); (· rfl); (· exact hfz.out.symm); rw [World.setRow_alloc_new])
    | (go_at_call 155; refine (HIX.out _ _ (cell_later (Below.of_al _ _) HN1.out) (cel_at rfl HFL.out)).mono ?_; rintro e w3 ⟨rfl, hb3⟩; have hc3 := HAT.out _ _ ((cel_at rfl HFL.out : Cel (w1.alloc (.cells fa 152)) (some ⟨w1.heap.size, 0, none⟩) ff).go hb3)))
  go_quiet (fail)
  go_wp2
  refine bodyPost_ret (v := .tuple #[.string kd, .bool q]) (by simp [results, Tryz.results116, go_sem]; try simp [hz]) rfl ?_
  exact ⟨kd, rfl, fun _ => rfl, by repeat (first | exact Below.refl _ _ | refine Below.al ?_ _ | refine Below.dr ?_ _ | refine Below.drew ?_ | assumption | (refine Below.st ?_ (by assumption)))⟩

theorem repeatL_r : ∀ c : Nat, Lib.repeatL ([110] : List UInt8) c = List.replicate c 110
  | 0 => rfl
  | c + 1 => by rw [Lib.repeatL, repeatL_r c]; rfl
theorem repeat_one (c : Nat) : (⟨(Lib.repeatL ([110] : List UInt8) c).toArray⟩ : ByteArray) = cb (List.replicate c 110) := by
  rw [repeatL_r]
  rfl

set_option maxRecDepth 100000 in
set_option maxHeartbeats 4000000 in
theorem cmdKinds_tour (n : Nat) (w : World) (hn : n ≤ 100000) : Calls Tryz.prog 116 #[.string tourC, .int .i64 (n : Int)] w (KindPost tourC n w) := by
  have hkc : kindsC tourC n = (cb (List.replicate n 110), decide (2 ≤ n) && decide (n ≤ 20)) := if_pos rfl
  have HRP := Lib.hid (fun W => (by
    have h := Tryz.strings_Repeat ⟨#[110]⟩ (min n 20) W (by omega) (by rw [show (⟨#[110]⟩ : ByteArray).size = 1 from rfl]; omega)
    rw [show (⟨#[110]⟩ : ByteArray).data.toList = [110] from rfl, repeat_one, show ((min n 20 : Nat) : Int) = min (n : Int) 20 by omega] at h
    exact h : Calls Tryz.prog 154 #[.string ⟨#[110]⟩, .int .i64 (min (n : Int) 20)] W fun e w' => e = .returned (.string (cb (List.replicate (min n 20) 110))) ∧ Below W.heap.size W w'))
  have HQ := Lib.hid (show (decide (2 ≤ n) && decide (n ≤ 20)) = true → cb (List.replicate (min n 20) 110) = cb (List.replicate n 110) by
    intro h
    simp only [Bool.and_eq_true, decide_eq_true_eq] at h
    rw [show min n 20 = n by omega])
  unfold KindPost
  rw [hkc]
  simp only
  generalize cb (List.replicate (min n 20) 110) = s at *
  generalize cb (List.replicate n 110) = s' at *
  obtain ⟨nm, hnm⟩ : ∃ nm, nm = tourC := ⟨_, rfl⟩
  rw [← hnm]
  have htr : (nm.toList == ([84, 79, 85, 82] : List UInt8)) = true := (cm_byt (a := nm) (c := tourC) (l := [84, 79, 85, 82]) rfl).trans (decide_eq_true hnm)
  clear hkc hnm
  by_cases h2 : n < 2
  · have h2' : ¬ (2 : Int) ≤ (n : Int) := by omega
    have hq : (decide (2 ≤ n) && decide (n ≤ 20)) = false := by rw [decide_eq_false (show ¬ 2 ≤ n by omega)]; rfl
    rw [hq] at HQ ⊢
    clear hq
    obtain ⟨R, hR⟩ : ∃ R : Ending → World → Prop, R = fun e w' => ∃ x, e = .returned (.tuple #[.string x, .bool false]) ∧ (false = true → x = s') ∧ Below w.heap.size w w' := ⟨_, rfl⟩
    have HRR := Lib.hid hR
    rw [← hR]
    clear hR
    go_enter Tryz.func116, Tryz.ntmps116
    go_wp2_with (go_at_call 154; refine (HRP.out _).mono ?_; rintro e w1 ⟨rfl, hb1⟩)
    rw [HRR.out]
    exact ⟨s, by first | rfl | simp [*], HQ.out, (Below.of_al _ _).st hb1⟩
  · by_cases h20 : n ≤ 20
    · have h2' : (2 : Int) ≤ (n : Int) := by omega
      have h20' : (n : Int) ≤ 20 := by omega
      have hq : (decide (2 ≤ n) && decide (n ≤ 20)) = true := by rw [decide_eq_true (show 2 ≤ n by omega), decide_eq_true h20]; rfl
      rw [hq] at HQ ⊢
      clear hq
      obtain ⟨R, hR⟩ : ∃ R : Ending → World → Prop, R = fun e w' => ∃ x, e = .returned (.tuple #[.string x, .bool true]) ∧ (true = true → x = s') ∧ Below w.heap.size w w' := ⟨_, rfl⟩
      have HRR := Lib.hid hR
      rw [← hR]
      clear hR
      go_enter Tryz.func116, Tryz.ntmps116
      go_wp2_with (go_at_call 154; refine (HRP.out _).mono ?_; rintro e w1 ⟨rfl, hb1⟩)
      rw [HRR.out]
      exact ⟨s, by first | rfl | simp [*], HQ.out, (Below.of_al _ _).st hb1⟩
    · have h2' : (2 : Int) ≤ (n : Int) := by omega
      have h20' : ¬ (n : Int) ≤ 20 := by omega
      have hq : (decide (2 ≤ n) && decide (n ≤ 20)) = false := by rw [decide_eq_false h20, Bool.and_false]
      rw [hq] at HQ ⊢
      clear hq
      obtain ⟨R, hR⟩ : ∃ R : Ending → World → Prop, R = fun e w' => ∃ x, e = .returned (.tuple #[.string x, .bool false]) ∧ (false = true → x = s') ∧ Below w.heap.size w w' := ⟨_, rfl⟩
      have HRR := Lib.hid hR
      rw [← hR]
      clear hR
      go_enter Tryz.func116, Tryz.ntmps116
      go_wp2_with (go_at_call 154; refine (HRP.out _).mono ?_; rintro e w1 ⟨rfl, hb1⟩)
      rw [HRR.out]
      exact ⟨s, by first | rfl | simp [*], HQ.out, (Below.of_al _ _).st hb1⟩

end Go.Proofs.YtelcmkccfjdmjaaGreatDoor
