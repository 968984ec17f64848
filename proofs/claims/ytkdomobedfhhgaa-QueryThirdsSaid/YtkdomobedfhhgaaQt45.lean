/-
  The library's contracts that the proof uses, laid at this program by the kit's own command; no condition.
  The library's sort of labels, laid at this program by the kit's own command; no condition.
  The library's sort at labels.
-/
import Derived.Shelf.Small.Bits
import Derived.Shelf.Small.Wraps
import Derived.Shelf.Strconv.Itoa0
import Derived.Ground.Names2Prog
import Derived.Shelf.Slices.Clone
import Derived.Shelf.Slices.SearchI
import Derived.Ground.SlgnProg
import Derived.Shelf.SlicesE.Clone
import Derived.Test.YtkdomobedfhhgaaProg
import Derived.Ground.SlsfProg
import Derived.Shelf.SlSortCmp.Insertion
import Derived.Shelf.SlSortCmp.SmallK
import Derived.Test.YtkdomobedfhhgaaQt44
set_option linter.unusedVariables false
set_option linter.unusedSimpArgs false
set_option linter.unnecessarySimpa false
section
namespace Go.Proofs
open Go.Shelf
def Try.lays125_ren : Go.Shelf.Ren := ⟨fun | 125 => 79 | 128 => 91 | 129 => 92 | n => n, fun | 46 => 151 | 3 => 3 | 51 => 164 | 53 => 34 | 4 => 4 | 5 => 5 | 9 => 9 | n => n, fun | n => n⟩
theorem Try.lays125 : Go.Proofs.Lays.n125 Try.prog Try.lays125_ren := {
  mixed := by kernel_rfl
  f125 := Try.func79.trans (congrArg some (by kernel_rfl))
  f128 := Try.func91.trans (congrArg some (by kernel_rfl))
  f129 := Try.func92.trans (congrArg some (by kernel_rfl))
  t3 := Try.underlying3
  a3 := Try.isAgg3
  z3 := Try.sizeOf3
  v3 := Try.zeroValue3
  t4 := Try.underlying4
  a4 := Try.isAgg4
  z4 := Try.sizeOf4
  v4 := Try.zeroValue4
  t5 := Try.underlying5
  a5 := Try.isAgg5
  z5 := Try.sizeOf5
  v5 := Try.zeroValue5
  t9 := Try.underlying9
  a9 := Try.isAgg9
  z9 := Try.sizeOf9
  v9 := Try.zeroValue9
  t46 := Try.underlying151
  a46 := Try.isAgg151
  z46 := Try.sizeOf151
  v46 := Try.zeroValue151
  t51 := Try.underlying164
  a51 := Try.isAgg164
  z51 := Try.sizeOf164
  v51 := Try.zeroValue164
  t53 := Try.underlying34
  a53 := Try.isAgg34
  z53 := Try.sizeOf34
  v53 := Try.zeroValue34 }
theorem Try.bits_Len (x : Int) (w : World) (h0 : 0 ≤ x) (h1 : x ≤ 18446744073709551615) :
    Calls Try.prog 79 #[.int .u64 x] w fun e w' => e = .returned (.int .i64 (Lib.bitLen x.toNat)) ∧ w' = w := Any.bits_Len Try.lays125 x w h0 h1
def Try.lays122_ren : Go.Shelf.Ren := ⟨fun | 122 => 66 | 215 => 80 | n => n, fun | 3 => 3 | 4 => 4 | n => n, fun | n => n⟩
theorem Try.lays122 : Go.Proofs.Lays.n122 Try.prog Try.lays122_ren := {
  mixed := by kernel_rfl
  f122 := Try.func66.trans (congrArg some (by kernel_rfl))
  f215 := Try.func80.trans (congrArg some (by kernel_rfl))
  t3 := Try.underlying3
  a3 := Try.isAgg3
  z3 := Try.sizeOf3
  v3 := Try.zeroValue3
  t4 := Try.underlying4
  a4 := Try.isAgg4
  z4 := Try.sizeOf4
  v4 := Try.zeroValue4 }
open Go.RowKit in
theorem Try.cmp_Compare_int (x y : Int) (w : World) :
    Calls Try.prog 66 #[.int .i64 x, .int .i64 y] w fun e w' => e = .returned (.int .i64 (Lib.compareInt x y)) ∧ w' = w := Any.cmp_Compare_int Try.lays122 x y w

end Go.Proofs
end

section
namespace Go.Proofs
open Go.Shelf
def Try.laysSort_ren : Go.Shelf.Ren := ⟨fun | 6 => 64 | 15 => 79 | 14 => 78 | 28 => 91 | 29 => 92 | 20 => 83 | 21 => 84 | 22 => 85 | 23 => 86 | 24 => 87 | 25 => 88 | 26 => 89 | 27 => 90 | 46 => 94 | 47 => 95 | 48 => 96 | 49 => 97 | 50 => 98 | 57 => 99 | n => n, fun | 22 => 48 | 24 => 82 | 25 => 140 | 3 => 3 | 39 => 151 | 0 => 0 | 53 => 164 | 55 => 34 | 4 => 4 | 46 => 158 | 45 => 157 | 50 => 70 | 5 => 5 | 9 => 9 | 66 => 166 | 70 => 170 | 76 => 172 | 77 => 173 | n => n, fun | n => n⟩
theorem Try.laysSort : Go.Proofs.SlLaysF0.n6 Try.prog Try.laysSort_ren := {
  mixed := by kernel_rfl
  f6 := ⟨Try.f64.name, by decide, Try.func64.trans (congrArg some (by kernel_rfl))⟩
  f14 := ⟨Try.f78.name, by decide, Try.func78.trans (congrArg some (by kernel_rfl))⟩
  f15 := Try.func79.trans (congrArg some (by kernel_rfl))
  f20 := ⟨Try.f83.name, by decide, Try.func83.trans (congrArg some (by kernel_rfl))⟩
  f21 := ⟨Try.f84.name, by decide, Try.func84.trans (congrArg some (by kernel_rfl))⟩
  f22 := ⟨Try.f85.name, by decide, Try.func85.trans (congrArg some (by kernel_rfl))⟩
  f23 := ⟨Try.f86.name, by decide, Try.func86.trans (congrArg some (by kernel_rfl))⟩
  f24 := ⟨Try.f87.name, by decide, Try.func87.trans (congrArg some (by kernel_rfl))⟩
  f25 := ⟨Try.f88.name, by decide, Try.func88.trans (congrArg some (by kernel_rfl))⟩
  f26 := ⟨Try.f89.name, by decide, Try.func89.trans (congrArg some (by kernel_rfl))⟩
  f27 := ⟨Try.f90.name, by decide, Try.func90.trans (congrArg some (by kernel_rfl))⟩
  f28 := Try.func91.trans (congrArg some (by kernel_rfl))
  f29 := Try.func92.trans (congrArg some (by kernel_rfl))
  f46 := ⟨Try.f94.name, by decide, Try.func94.trans (congrArg some (by kernel_rfl))⟩
  f47 := Try.func95.trans (congrArg some (by kernel_rfl))
  f48 := Try.func96.trans (congrArg some (by kernel_rfl))
  f49 := ⟨Try.f97.name, by decide, Try.func97.trans (congrArg some (by kernel_rfl))⟩
  f50 := ⟨Try.f98.name, by decide, Try.func98.trans (congrArg some (by kernel_rfl))⟩
  f57 := ⟨Try.f99.name, by decide, Try.func99.trans (congrArg some (by kernel_rfl))⟩
  t0 := Try.underlying0
  a0 := Try.isAgg0
  z0 := Try.sizeOf0
  v0 := Try.zeroValue0
  t3 := Try.underlying3
  a3 := Try.isAgg3
  z3 := Try.sizeOf3
  v3 := Try.zeroValue3
  t4 := Try.underlying4
  a4 := Try.isAgg4
  z4 := Try.sizeOf4
  v4 := Try.zeroValue4
  t5 := Try.underlying5
  a5 := Try.isAgg5
  z5 := Try.sizeOf5
  v5 := Try.zeroValue5
  t9 := Try.underlying9
  a9 := Try.isAgg9
  z9 := Try.sizeOf9
  v9 := Try.zeroValue9
  t22 := Try.underlying48
  a22 := Try.isAgg48
  z22 := Try.sizeOf48
  v22 := Try.zeroValue48
  t25 := Try.underlying140
  a25 := Try.isAgg140
  z25 := Try.sizeOf140
  v25 := Try.zeroValue140
  t39 := Try.underlying151
  a39 := Try.isAgg151
  z39 := Try.sizeOf151
  v39 := Try.zeroValue151
  t45 := Try.underlying157
  a45 := Try.isAgg157
  z45 := Try.sizeOf157
  v45 := Try.zeroValue157
  t46 := Try.underlying158
  a46 := Try.isAgg158
  z46 := Try.sizeOf158
  v46 := Try.zeroValue158
  t50 := Try.underlying70
  a50 := Try.isAgg70
  z50 := Try.sizeOf70
  v50 := Try.zeroValue70
  t53 := Try.underlying164
  a53 := Try.isAgg164
  z53 := Try.sizeOf164
  v53 := Try.zeroValue164
  t55 := Try.underlying34
  a55 := Try.isAgg34
  z55 := Try.sizeOf34
  v55 := Try.zeroValue34
  t66 := Try.underlying166
  a66 := Try.isAgg166
  z66 := Try.sizeOf166
  v66 := Try.zeroValue166
  t70 := Try.underlying170
  a70 := Try.isAgg170
  z70 := Try.sizeOf170
  v70 := Try.zeroValue170
  t76 := Try.underlying172
  a76 := Try.isAgg172
  z76 := Try.sizeOf172
  v76 := Try.zeroValue172
  t77 := Try.underlying173
  a77 := Try.isAgg173
  z77 := Try.sizeOf173
  v77 := Try.zeroValue173 }
end Go.Proofs
end

section
namespace Go.Proofs.Ytkdomobedfhhgaa
open Go Go.Proofs Go.RowKit Go.Shelf Go.Lib Go.Sort Go.Proofs.Ytkdomobedfhhgaa.Hp Go.Proofs.Ytkdomobedfhhgaa.Ch

instance : Inhabited LB := ⟨⟨0, 0, 0⟩⟩
def enc3 (x : LB) : List Value := [.int .i64 x.v, .int .u64 x.d, .int .i64 x.b]
theorem flatB_len : ∀ l : List LB, (flatB l).length = l.length * 3
  | [] => rfl
  | x :: l => by rw [flatB]; simp [flatB_len l]; omega
theorem flatK_list (l : List LB) : (flatK enc3 3 l.toArray).toList = flatB l := by
  apply List.ext_getElem?
  intro t
  rcases Nat.lt_or_ge t (l.length * 3) with ht | ht
  · have h1 := get_flatK enc3 3 l.toArray t (by simpa using ht)
    have hk : t / 3 < l.length := by omega
    have hsz : t < (flatK enc3 3 l.toArray).size := by simpa using ht
    rw [getElem!_pos _ t hsz] at h1
    rw [Array.getElem?_toList, Array.getElem?_eq_getElem hsz, h1]
    have h2 : l.toArray[t / 3]! = l[t / 3] := by rw [getElem!_pos _ (t / 3) (by simpa using hk)]; simp
    rw [h2]
    obtain ⟨g0, g1, g2⟩ := flatB_get l (t / 3) hk
    have hm : t % 3 = 0 ∨ t % 3 = 1 ∨ t % 3 = 2 := by omega
    have hd : t = t / 3 * 3 + t % 3 := by omega
    rcases hm with h | h | h
    · rw [h] at hd ⊢
      conv => rhs; rw [hd]
      exact g0.symm
    · rw [h] at hd ⊢
      conv => rhs; rw [hd]
      exact g1.symm
    · rw [h] at hd ⊢
      conv => rhs; rw [hd]
      exact g2.symm
  · rw [List.getElem?_eq_none (by simpa using ht), List.getElem?_eq_none (by rw [flatB_len]; exact ht)]
def cfL (a b : LB) : Int := Lib.compareInt a.v b.v
set_option maxRecDepth 100000 in
set_option maxHeartbeats 1000000 in
theorem run1_any (x y : LB) (W : World) : Calls Try.prog 65 (#[.agg (enc3 x).toArray, .agg (enc3 y).toArray] ++ #[]) W fun e w' => e = .returned (.int .i64 (cfL x y)) ∧ ∃ q os, w' = grow (W.drewN q) os := by
  have HC := Lib.hid (Try.cmp_Compare_int x.v y.v)
  unfold cfL
  generalize Lib.compareInt x.v y.v = r at *
  show Calls Try.prog _ (#[.agg #[.int .i64 x.v, .int .u64 x.d, .int .i64 x.b], .agg #[.int .i64 y.v, .int .u64 y.d, .int .i64 y.b]] ++ #[]) W _
  go_enter Try.func65, Try.ntmps65
  go_wp2_with (go_at_call 66; refine (HC.out _).mono ?_; rintro e w1 ⟨rfl, rfl⟩)
  go_ret
  refine ⟨rfl, 0, #[.cells #[.int .i64 x.v, .int .u64 x.d, .int .i64 x.b] 82, .cells #[.int .i64 y.v, .int .u64 y.d, .int .i64 y.b] 82], ?_⟩
  rw [alloc_eq_grow, alloc_eq_grow, grow_grow]
  rfl
theorem ltL (a b : LB) : ltOf cfL a b = decide (a.v < b.v) := by
  unfold ltOf cfL Lib.compareInt
  by_cases h1 : a.v < b.v
  · simp [h1]
  · by_cases h2 : b.v < a.v
    · simp [h1, h2]
    · simp [h1, h2]
theorem swoL : SWO (ltOf cfL) := by
  refine ⟨fun x => ?_, fun x y z h1 h2 => ?_, fun x y z h1 h2 => ?_⟩
  · rw [ltL]; simp
  · rw [ltL] at *; simp at *; omega
  · rw [ltL] at *; simp at *; omega
set_option maxRecDepth 100000 in
set_option maxHeartbeats 1000000 in
theorem sortOK : SortOK := by
  intro W base v4 l hne h12 hown
  have hown0 := hown
  obtain ⟨hlen, h2⟩ := hown
  rcases h2 with ⟨_, h0⟩ | ⟨g, cap, cur, rfl, hb, hg, hcap, hml, hsz, htk⟩
  · exact absurd (List.eq_nil_of_length_eq_zero h0) hne
  · have hcell := fun j (hj : j < l.length * 3) => hown0.cellAt j hj
    have hfroz := hown0.frozenAt
    have hlt : g < W.heap.size := (Array.getElem?_eq_some_iff.1 hg).1
    have hH : HoldsK enc3 3 W g 0 l.toArray := by
      intro j hj
      rw [size_flatK] at hj
      have hj2 : j < l.length * 3 := by simpa using hj
      refine ⟨?_, by rw [Nat.zero_add]; exact hfroz j⟩
      rw [Nat.zero_add]
      refine (hcell j hj2).trans ?_
      rw [← flatK_list, Array.getElem?_toList, getElem!_pos _ j (by rw [size_flatK]; exact hj), Array.getElem?_eq_getElem (by rw [size_flatK]; exact hj)]
      rfl
    refine (AnyQ.slices_SortFunc_small_sorted Try.laysSort 3 (fun _ => by kernel_rfl) (fun _ => by kernel_rfl) enc3 (fun _ => rfl) ?_ cfL 65 #[] swoL g 0 cap l.toArray W (enters_of Try.func65 (by kernel_rfl) rfl) (fun m os dk _ x y => run1_any x y _) hH hlt (by simpa using h12) ?_).mono ?_
    · intro x v hv
      unfold enc3 at hv
      simp only [List.mem_cons, List.not_mem_nil, or_false] at hv
      rcases hv with rfl | rfl | rfl <;> rfl
    · intro n W hn
      exact (Try.bits_Len (n : Int) W (by omega) (by omega)).mono (fun e w' h => ⟨⟨_, h.1⟩, h.2⟩)
    · rintro e w' ⟨rfl, d', n, os, ⟨hs, -, hp⟩, hso, rfl⟩
      have hs2 : d'.size = l.length := by simpa using hs
      have hpl : d'.toList.Perm l := by
        have e1 : d'.extract 0 l.toArray.size = d' := by rw [← hs]; simp
        have e2 : l.toArray.extract 0 l.toArray.size = l.toArray := by simp
        rw [e1, e2] at hp
        simpa using hp
      have hdl : d' = d'.toList.toArray := by simp
      have hsz9 : W.heap.size ≤ (sortWorldK enc3 3 W g 0 n d' os).heap.size := size_sortWorldK_c enc3 3 W g 0 n d' os
      have hoth : ∀ k, k < W.heap.size → k ≠ g → (sortWorldK enc3 3 W g 0 n d' os).heap[k]? = W.heap[k]? := by
        intro k hk hne2
        show ((W.heap.modify g _) ++ os)[k]? = _
        rw [Array.getElem?_append_left (by simpa using hk), Array.getElem?_modify, if_neg (fun e => hne2 e.symm)]
      have hgg : (sortWorldK enc3 3 W g 0 n d' os).heap[g]? = some (.cells (putCells id 0 (flatK enc3 3 d') cur) 82 (0, 0)) := by
        show ((W.heap.modify g _) ++ os)[g]? = _
        rw [Array.getElem?_append_left (by simpa using hlt), Array.getElem?_modify, if_pos rfl, hg]
        rfl
      refine ⟨rfl, d'.toList, hpl, ?_, ⟨by rw [flatB_len, Array.length_toList, hs2], .inr ⟨g, cap, _, rfl, hb, hgg, hcap, hml, by unfold putCells; rw [Array.size_mapIdx]; exact hsz, ?_⟩⟩, ⟨rfl, rfl, rfl, hsz9, fun k hk hn => hoth k hk (fun e => hn (by rw [e]; rfl))⟩⟩
      · rw [List.pairwise_iff_getElem]
        intro i j hi hj hij
        rw [Array.length_toList] at hi hj
        have h9 := hso i j (Nat.zero_le _) hij (by simpa [hs2] using hj)
        rw [ltL, getElem!_pos _ j hj, getElem!_pos _ i hi] at h9
        have h8 := of_decide_eq_false h9
        rw [Array.getElem_toList, Array.getElem_toList]
        omega
      · have hF : (flatK enc3 3 d').toList = flatB d'.toList := by have h9 := flatK_list d'.toList; simpa using h9
        have hFs : (flatK enc3 3 d').size = l.length * 3 := by rw [size_flatK, hs2]
        rw [← hF]
        apply List.ext_getElem?
        intro t
        rw [List.getElem?_take]
        by_cases ht : t < l.length * 3
        · have h1 : t < cur.size := by rw [hsz]; omega
          have h2 : t < (flatK enc3 3 d').size := by rw [hFs]; exact ht
          rw [if_pos ht, Array.getElem?_toList, Array.getElem?_toList, Array.getElem?_eq_getElem h2]
          unfold putCells
          rw [Array.getElem?_mapIdx, Array.getElem?_eq_getElem h1]
          simp only [Option.map_some]
          rw [if_pos ⟨Nat.zero_le _, by omega⟩, Nat.sub_zero, getElem!_pos _ t h2]
          rfl
        · rw [if_neg ht, Array.getElem?_toList, Array.getElem?_eq_none (by rw [hFs]; omega)]
end Go.Proofs.Ytkdomobedfhhgaa
end
