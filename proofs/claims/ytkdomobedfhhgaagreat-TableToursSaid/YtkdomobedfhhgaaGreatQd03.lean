/-
  Walk of the library's slices.Backward at a row of numbers that stays.
  The library's contracts that the proof uses, laid at this program by the kit's own command; no condition.
  Walk of the library's slices.Repeat at one weight.
  A region within a round of a range over a function: operations that only grow memory, in any order, and a last one that waits for all of them.
-/
import Derived.Test.YtkdomobedfhhgaaGreatProg
import Derived.Test.YtkdomobedfhhgaaGreatQb27
import Derived.Test.YtkdomobedfhhgaaGreatQd02
import Derived.Shelf.Small.Bits
import Derived.Shelf.Small.Wraps
import Derived.Shelf.Strconv.Itoa0
import Derived.Shelf.Bits.Mul64
import Derived.Shelf.Slices.Reverse
import Derived.Ground.Names2Prog
import Derived.Shelf.Slices.Clone
import Derived.Shelf.Slices.SearchI
import Derived.Shelf.Slices.Cells
import Derived.Ground.SlgnProg
import Derived.Shelf.SlicesE.Clone
import Derived.Ground.SlsfProg
import Derived.Shelf.SlSortCmp.Insertion
import Derived.Test.YtkdomobedfhhgaaGreatQb31
import Derived.Test.YtkdomobedfhhgaaGreatQc01
import Derived.Laws.CopyOwn
import Derived.Deep.RegionLaw
import Derived.Test.YtkdomobedfhhgaaGreatQb28
set_option linter.unusedVariables false
set_option linter.unusedSimpArgs false
set_option linter.unnecessarySimpa false
section
namespace Go.Proofs.YtkdomobedfhhgaaGreat
open Go Go.Proofs Go.RowKit Go.Shelf Go.Proofs.YtkdomobedfhhgaaGreat.Hp Go.Proofs.YtkdomobedfhhgaaGreat.Ch

/-- the blocks of a row and of the box that names it -/
def KpB (B : Nat) (ao : Option Addr) (k : Nat) : Prop := k = B ∨ ∃ b o, ao = some ⟨b, o, none⟩ ∧ k = b
/-- what is told: each place, from the last one down, with what lies there -/
def bwdP (l : List Int) : List (Nat × Int) := (List.range l.length).reverse.map fun i => (i, l.getD i 0)
theorem bwdP_len (l : List Int) : (bwdP l).length = l.length := by simp [bwdP]
theorem bwdP_get {l : List Int} {j : Nat} (hj : j < l.length) : (bwdP l)[j]? = some (l.length - 1 - j, l.getD (l.length - 1 - j) 0) := by
  unfold bwdP
  rw [List.getElem?_map, List.getElem?_reverse (by simpa using hj), List.length_range, List.getElem?_range (by omega)]
  rfl
theorem bwdP_at {l : List Int} {pre : List (Nat × Int)} {x : Nat × Int} (h : (pre ++ [x]) <+: bwdP l) : x.1 + pre.length + 1 = l.length ∧ x.2 = l.getD x.1 0 := by
  have hl := h.length_le
  rw [bwdP_len, List.length_append, List.length_singleton] at hl
  obtain ⟨t, e⟩ := h
  have h1 : (bwdP l)[pre.length]? = some x := by rw [← e, List.getElem?_append_left (by simp), List.getElem?_append_right (Nat.le_refl _)]; simp
  rw [bwdP_get (by omega)] at h1
  cases h1
  exact ⟨by simp only; omega, rfl⟩
theorem Backward_any (ao : Option Addr) (n cap : Nat) (w : World) : Calls Tryz.prog 128 #[.slice ao n cap] w fun e w' => e = .returned (.func (.func 166) #[] #[.pointer (some ⟨w.heap.size, 0, none⟩)]) ∧ Below w.heap.size w w' ∧ w'.heap.size = w.heap.size + 1 ∧ w'.cell? ⟨w.heap.size, 0, none⟩ = some (.slice ao n cap) := by
  go_enter Tryz.func128, Tryz.ntmps128
  go_wp2
  go_ret
  exact ⟨rfl, Below.of_al _ _, by simp, by go_simp⟩
set_option maxHeartbeats 4000000 in
set_option maxRecDepth 100000 in
/-- its iterator -/
theorem backward_keeps (n : Nat) (hn : 1 ≤ n) (ao : Option Addr) (cap B : Nat) (r : List Int) (w : World) (hr : r.length ≤ 1000000) (h0 : w.cell? ⟨B, 0, none⟩ = some (.slice ao r.length cap)) (hc : Cel w ao (r.map encI)) :
    SeqK Fence.wide n Tryz.prog 166 #[.pointer (some ⟨B, 0, none⟩)] (fun x : Nat × Int => #[.int .i64 x.1, .int .i64 x.2]) (bwdP r) (KpB B ao) w := by
  intro l J Jx W hk hJ hJx hY hJ0
  refine callsIn_of_wp Tryz.func166 rfl trivial ?_ rfl
  simp only [Tryz.ntmps166, List.size_toArray, List.length_cons, List.length_nil, Nat.reduceAdd, Nat.reduceSub, Array.replicate_succ, Array.replicate_zero, List.push_toArray, List.append_toArray, List.nil_append, List.cons_append]
  have e0 : W.cell? ⟨B, 0, none⟩ = some (.slice ao r.length cap) := by rw [World.cell?_of_block (w := w) (hk.2 B (.inl rfl))]; exact h0
  have hcW : ∀ W', KeepX (KpB B ao) W W' → Cel W' ao (r.map encI) := fun W' h i u hu => by
    obtain ⟨b, o, e, h1⟩ := hc i u hu
    exact ⟨b, o, e, (World.cell?_of_block (w := w) ((h.2 b (.inr ⟨b, o, e, rfl⟩)).trans (hk.2 b (.inr ⟨b, o, e, rfl⟩)))).trans h1⟩
  have HC := Lib.hid hcW
  have HY := Lib.hid hY
  have HBL := Lib.hid (bwdP_len r)
  have HAT := Lib.hid (fun pre x => bwdP_at (l := r) (pre := pre) (x := x))
  generalize bwdP r = parts at *
  clear hY hk h0 hc hcW hJ hJx
  gi_wp2
  gi_loopg [3] r.length (fun gg vi wr => ∃ (pre : List (Nat × Int)) (m : Nat), pre <+: parts ∧ pre.length + m = r.length ∧ m ≤ gg ∧ vi = .int .i64 ((m : Int) - 1) ∧ Aside (KeepX (KpB B ao) W wr) ∧ Aside (J pre wr))
  case atStart => exact ⟨[], r.length, List.nil_prefix, by simp, Nat.le_refl _, rfl, ⟨Nat.le_refl _, fun _ _ => rfl⟩, hJ0⟩
  case round =>
    clear hJ0
    obtain ⟨pre, m, hpp, hm, hgg, rfl, HK, HJ⟩ := hrel
    have f0 := (World.cell?_of_block (a := ⟨B, 0, none⟩) (HK.out.2 B (.inl rfl))).trans e0
    clear e0
    cases m with
    | zero =>
      have hpe : pre = parts := hpp.eq_of_length (by rw [HBL.out]; omega)
      gi_wp2
      go_end0
      exact ⟨⟨_, rfl⟩, .inl (by rw [← hpe]; exact HJ.out)⟩
    | succ i =>
      have hx : ∃ x, (pre ++ [x]) <+: parts := by
        have hbl := HBL.out
        obtain ⟨t, rfl⟩ := hpp
        cases t with
        | nil => simp at hbl; omega
        | cons a t => exact ⟨a, t, by simp⟩
      obtain ⟨⟨xi, xv⟩, hpx⟩ := hx
      obtain ⟨h1, h2⟩ := HAT.out pre (xi, xv) hpx
      simp only at h1 h2
      obtain rfl : i = xi := by omega
      have hir : i < r.length := by omega
      obtain ⟨g, go, rfl, c1⟩ := (HC.out wr HK.out).at hir
      have hxr : r[i] = xv := by rw [h2]; simp [List.getD, hir]
      rw [hxr] at c1
      obtain ⟨fn, tmps, assign, body, hy, hR⟩ := HY.out pre (i, xv) wr HJ.out hpx
      dsimp only at hy
      have HR := Lib.hid hR
      clear hR h1 h2 hxr
      have hii : ((i + 1 : Nat) : Int) - 1 = (i : Int) := by omega
      rw [hii]
      have hi0 : (0 : Int) ≤ (i : Int) := by omega
      have hil : (i : Int) < (r.length : Int) := by omega
      gi_wp2
      refine HR.out.mono ?_
      rintro e W' (⟨rfl, hJ', hk⟩ | ⟨rfl, hJx'⟩)
      · have HJ2 := Lib.hid hJ'
        have HK2 := Lib.hid (HK.out.trans hk)
        clear hJ' hk f0 c1
        gi_wp2
        gi_roundg i
        case rel => exact ⟨pre ++ [(i, xv)], i, hpx, by simp; omega, Nat.le_refl _, by go_num, HK2.out, HJ2.out⟩
        case measure => omega
      · have HJ2 := Lib.hid hJx'
        clear hJx'
        gi_wp2
        refine bodyPost_ret (results_none rfl _ _ _) rfl ?_
        exact ⟨⟨_, rfl⟩, .inr ⟨pre ++ [(i, xv)], hpx, HJ2.out⟩⟩
end Go.Proofs.YtkdomobedfhhgaaGreat
end

section
namespace Go.Proofs
open Go.Shelf
def Tryz.lays264_ren : Go.Shelf.Ren := ⟨fun | 264 => 169 | n => n, fun | 53 => 34 | 46 => 216 | n => n, fun | n => n⟩
theorem Tryz.lays264 : Go.Proofs.Lays.n264 Tryz.prog Tryz.lays264_ren := {
  mixed := by kernel_rfl
  f264 := Tryz.func169.trans (congrArg some (by kernel_rfl))
  t46 := Tryz.underlying216
  a46 := Tryz.isAgg216
  z46 := Tryz.sizeOf216
  v46 := Tryz.zeroValue216
  t53 := Tryz.underlying34
  a53 := Tryz.isAgg34
  z53 := Tryz.sizeOf34
  v53 := Tryz.zeroValue34 }
open Go.RowKit Go.Lib in
theorem Tryz.bits_Mul64 (x y : Nat) (hx : x < 18446744073709551616) (hy : y < 18446744073709551616) (w : World) :
    Calls Tryz.prog 169 #[.int .u64 x, .int .u64 y] w fun e w' => e = .returned (.tuple #[.int .u64 ((x * y / 18446744073709551616 : Nat) : Int), .int .u64 ((x * y % 18446744073709551616 : Nat) : Int)]) ∧ w' = w := Any.bits_Mul64 Tryz.lays264 x y hx hy w

end Go.Proofs
end

section
namespace Go.Proofs.YtkdomobedfhhgaaGreat
open Go Go.Proofs Go.RowKit Go.Shelf Go.Proofs.YtkdomobedfhhgaaGreat.Hp Go.Proofs.YtkdomobedfhhgaaGreat.Ch

theorem owns_raw {W : World} {base D n : Nat} {E : TypeId} {xs : List Value} (h : W.ownsRow base E 1 (.slice (some ⟨D, 0, none⟩) n n) n xs) : W.heap[D]? = some (.cells xs.toArray E (0, 0)) ∧ base ≤ D ∧ xs.length = n := by
  obtain ⟨h1, h2⟩ := h
  rcases h2 with ⟨e, _⟩ | ⟨g, cap, cur, e, hb, hg, h3, h4, h5, h6⟩
  · cases e
  · cases e
    rw [Nat.mul_one] at h1 h5 h6
    refine ⟨?_, hb, h1⟩
    rw [List.take_of_length_le (by simp [h5])] at h6
    rw [hg, ← h6]
theorem raw_owns {W : World} {base D n : Nat} {E : TypeId} {xs : List Value} (hg : W.heap[D]? = some (.cells xs.toArray E (0, 0))) (hb : base ≤ D) (hl : xs.length = n) (hn : n ≤ 60000) : W.ownsRow base E 1 (.slice (some ⟨D, 0, none⟩) n n) n xs := by
  refine ⟨by omega, .inr ⟨D, n, xs.toArray, rfl, hb, hg, Nat.le_refl _, by unfold maxLen; omega, by simp [hl], ?_⟩⟩
  rw [Nat.mul_one, List.take_of_length_le (by simp [hl])]
theorem mul_any (m : Nat) (w : World) (hm : m ≤ 60000) : Calls Tryz.prog 132 #[.int .u64 1, .int .u64 (m : Int)] w fun e w' => e = .returned (.tuple #[.int .u64 0, .int .u64 (m : Int)]) ∧ w = w' := by
  have HM := Lib.hid (Tryz.bits_Mul64 1 m (by omega) (by omega) w)
  rw [Nat.one_mul, Nat.div_eq_of_lt (by omega), Nat.mod_eq_of_lt (by omega)] at HM
  have HM2 : Hid (Calls Tryz.prog 169 #[.int .u64 1, .int .u64 (m : Int)] w fun e w' => e = .returned (.tuple #[.int .u64 0, .int .u64 (m : Int)]) ∧ w' = w) := HM
  clear HM
  go_enter Tryz.func132, Tryz.ntmps132
  go_wp2_with (go_at_call 169; refine HM2.out.mono ?_; rintro e w1 ⟨rfl, e1⟩; subst e1)
  refine bodyPost_ret (v := .tuple #[.int .u64 0, .int .u64 (m : Int)]) (by simp [results, Tryz.results132, go_sem]; try rfl) rfl ?_
  exact ⟨rfl, rfl⟩
/-- the row while it is filled up -/
def fillV (v : Int) (m k : Nat) : List Value := (List.range m).map fun i => if i < k then .int .u64 v else .int .u64 0
theorem fillV_len (v : Int) (m k : Nat) : (fillV v m k).length = m := by simp [fillV]
theorem fillV_get {v : Int} {m k i : Nat} (h : i < m) (hk : i < k) : (fillV v m k)[i]? = some (.int .u64 v) := by
  unfold fillV
  rw [List.getElem?_map, List.getElem?_range h]
  simp [hk]
theorem fillV_zero (v : Int) (m : Nat) : fillV v m 0 = List.replicate m (.int .u64 0) := by
  unfold fillV
  apply List.ext_getElem <;> simp
theorem fillV_end (v : Int) (m : Nat) : fillV v m m = (List.replicate m v).map encW := by
  unfold fillV
  apply List.ext_getElem
  · simp
  · intro i h1 h2
    simp at h1
    simp [h1]
theorem fillV_splice {v : Int} {m k c : Nat} (h : k + c ≤ m) : splice (fillV v m k) k (List.replicate c (.int .u64 v)) = fillV v m (k + c) := by
  unfold splice
  apply List.ext_getElem?
  intro i
  rw [List.length_replicate]
  by_cases h1 : i < k
  · rw [List.getElem?_append_left (by rw [List.length_take, fillV_len]; omega), List.getElem?_take_of_lt h1, fillV_get (by omega) h1, fillV_get (by omega) (by omega)]
  · rw [List.getElem?_append_right (by rw [List.length_take, fillV_len]; omega), List.length_take, fillV_len, Nat.min_eq_left (by omega)]
    by_cases h2 : i < k + c
    · rw [List.getElem?_append_left (by rw [List.length_replicate]; omega), List.getElem?_replicate, if_pos (by omega), fillV_get (by omega) h2]
    · rw [List.getElem?_append_right (by rw [List.length_replicate]; omega), List.length_replicate, List.getElem?_drop]
      unfold fillV
      rw [List.getElem?_map, List.getElem?_map]
      have e : k + c + (i - k - c) = i := by omega
      rw [e]
      by_cases h3 : i < m
      · rw [List.getElem?_range h3]
        simp [h1, h2]
      · rw [List.getElem?_eq_none (by simpa using h3)]
        rfl
set_option maxRecDepth 100000 in
set_option maxHeartbeats 4000000 in
theorem repeat_any (bx ox xc m : Nat) (v : Int) (w : World) (hm : m ≤ 60000) (hx : w.cell? ⟨bx, ox, none⟩ = some (.int .u64 v)) :
    Calls Tryz.prog 90 #[.slice (some ⟨bx, ox, none⟩) 1 xc, .int .i64 (m : Int)] w fun e w' => e = .returned (.slice (some ⟨w.heap.size, 0, none⟩) m m) ∧
      w'.ownsRow w.heap.size 34 1 (.slice (some ⟨w.heap.size, 0, none⟩) m m) m ((List.replicate m v).map encW) ∧ Below w.heap.size w w' := by
  have HM := Lib.hid (fun W => mul_any m W hm)
  have hbx : bx < w.heap.size := World.block_lt_of_cell? _ _ hx
  have hm0 : (0 : Int) ≤ (m : Int) := by omega
  have hm1 : (m : Int) ≤ 60000 := by omega
  have HV := Lib.hid hx
  clear hx
  go_enter Tryz.func90, Tryz.ntmps90
  go_upto_region 6 with (go_at_call 132; refine (HM.out _).mono ?_; rintro e w1 ⟨rfl, rfl⟩)
  go_upto_region 7 with (at_make; go_must ((with_reducible refine wpList_mk w.heap.size 34 _ 1 8 elem_u64 Tryz.underlying41 m ?_ ?_ ?_ ?_ ?_ ?_ ?_ ?_); rotate_left 4; (· rfl); (· rfl); (· exact ⟨by simp, by simp, by omega, by omega, by simp⟩); intro wm hown hbl hszm; (have Hmo := Lib.hid hown; have Hmb := Lib.hid hbl; clear hown hbl)))
  have hz0 : (madeCells (Value.int .u64 0).cells (m * 1)).toList = fillV v m 0 := by
    show (madeCells #[Value.int .u64 0] (m * 1)).toList = _
    rw [Nat.mul_one, toList_madeCells_one, fillV_zero]
  obtain ⟨hraw, -, -⟩ := owns_raw (by have := Hmo.out; rw [hz0] at this; exact this)
  have HRAW := Lib.hid hraw
  have HBM := Lib.hid Hmb.out
  clear Hmo Hmb hz0 hraw
  by_cases h0 : m = 0
  · subst h0
    go_wp2_with (refine wpList_copy_nothing rfl (.tmp 31) (.tmp 32) 41 41 rfl 34 Tryz.underlying41 (by kernel_rfl) (some ⟨w.heap.size, 0, none⟩) (some ⟨bx, ox, none⟩) 0 0 1 xc ?_ ?_ rfl ?_; (· rfl); (· rfl))
    refine wp_loop_rounds 1 ?_
    rw [rounds_succ]
    go_wp2
    go_ret
    exact ⟨rfl, raw_owns HRAW.out (Nat.le_refl _) (by simp) (by omega), HBM.out⟩
  · have hpos : 0 < m := by omega
    have HC1 := Lib.hid (show ∀ j u, (List.replicate 1 (Value.int .u64 v))[j]? = some u → wm.cell? ((⟨bx, ox, none⟩ : Addr).add j) = some u from fun j u hu => by
      have hj : j = 0 := by
        have h9 := (List.getElem?_eq_some_iff.1 hu).1
        simp at h9
        omega
      subst hj
      simp at hu
      subst hu
      exact cell_later HBM.out HV.out)
    have HF1 := Lib.hid (show 0 + (List.replicate 1 (Value.int .u64 v)).length ≤ (fillV v m 0).length by rw [fillV_len]; simp; omega)
    have HN1 := Lib.hid (show (List.replicate 1 (Value.int .u64 v)).length = Nat.min 1 m from (by show 1 = min 1 m; omega))
    have HO1 := Lib.hid (show ∀ u ∈ List.replicate 1 (Value.int .u64 v), u.oneCell' = true from fun u hu => by rw [List.eq_of_mem_replicate hu]; rfl)
    go_wp2_with (refine wpList_copy_splice rfl (.tmp 31) (.tmp 32) 41 41 rfl 34 Tryz.underlying41 (by kernel_rfl) (some ⟨w.heap.size, 0, none⟩) (some ⟨bx, ox, none⟩) m m 1 xc ?_ ?_ w.heap.size 0 (fillV v m 0) 34 HRAW.out (List.replicate 1 (.int .u64 v)) HN1.out (fun _ => ⟨rfl, _, rfl, HC1.out⟩) HF1.out HO1.out w.heap.size w HBM.out (Nat.le_refl _) ?_; (· rfl); (· rfl); intro w2 hg2 hb2; (have HG2 := hg2); (have HB2 := Lib.hid hb2); clear hb2)
    have HG3 := Lib.hid (by have := HG2; rw [fillV_splice (k := 0) (c := 1) (by omega), Nat.zero_add] at this; exact this : w2.heap[w.heap.size]? = some (.cells (fillV v m 1).toArray 34 (0, 0)))
    clear HG2 HRAW
    go_loopg [8] m (fun gg v8 wr => ∃ k : Nat, 1 ≤ k ∧ k ≤ m ∧ m - k ≤ gg ∧ v8 = .int .i64 k ∧ Aside (wr.heap[w.heap.size]? = some (.cells (fillV v m k).toArray 34 (0, 0))) ∧ Aside (Below w.heap.size w wr))
    case atStart => exact ⟨1, Nat.le_refl _, by omega, by omega, rfl, HG3.out, HB2.out⟩
    case round =>
      obtain ⟨k, hk1, hk, hgg, rfl, HG, HB⟩ := hrel
      by_cases hlt : k < m
      · have hlt3 : (k : Int) < (m : Int) := by omega
        have hk0 : (0 : Int) ≤ (k : Int) := by omega
        obtain ⟨c, hc⟩ : ∃ c, c = min k (m - k) := ⟨_, rfl⟩
        have HSP := Lib.hid (fillV_splice (v := v) (m := m) (k := k) (c := c) (by omega))
        have hc1 : 1 ≤ c := by omega
        have hcm : k + c ≤ m := by omega
        have hkm : (k : Int) + (c : Int) = ((k + c : Nat) : Int) := by omega
        have HCc := Lib.hid (fun W5 (hz : Below wr.heap.size wr W5) => show ∀ j u, (List.replicate c (Value.int .u64 v))[j]? = some u → W5.cell? ((⟨w.heap.size, 0, none⟩ : Addr).add j) = some u from fun j u hu => by
          have hj : j < c := by
            have h9 := (List.getElem?_eq_some_iff.1 hu).1
            simpa using h9
          rw [List.getElem?_replicate, if_pos hj] at hu
          cases hu
          rw [Addr.add_lit, Nat.zero_add]
          have h8 := fillV_get (v := v) (m := m) (k := k) (i := j) (by omega) (by omega)
          have h7 := (raw_owns (base := w.heap.size) (n := m) HG.out (Nat.le_refl _) (fillV_len _ _ _) hm).cellAt j (by omega)
          exact cell_later hz (h7.trans h8))
        have HFc := Lib.hid (show k + (List.replicate c (Value.int .u64 v)).length ≤ (fillV v m k).length by rw [fillV_len, List.length_replicate]; exact hcm)
        have HNc := Lib.hid (show (List.replicate c (Value.int .u64 v)).length = Nat.min k (m - k) by rw [List.length_replicate, hc])
        have HOc := Lib.hid (show ∀ u ∈ List.replicate c (Value.int .u64 v), u.oneCell' = true from fun u hu => by rw [List.eq_of_mem_replicate hu]; rfl)
        have hkm1 : (k : Int) ≤ 60000 := by omega
        have HGG := Lib.hid hgg
        clear hc hgg
        go_upto_region 9 with (fail)
        refine wp_region_ext_tail1 6 (by kernel_rfl) (by kernel_rfl) (fun _ _ _ h => h) ?_
        simp only [List.take_succ_cons, List.take_zero, List.drop_succ_cons, List.drop_zero, Act.put, Act.eval, List.setIfInBounds_toArray, List.set_cons_zero, List.set_cons_succ]
        repeat (go_big_quiet_step (fail))
        refine wpQuiet_nil ?_
        rintro _ ⟨p5, rfl⟩
        have HB5 := Lib.hid (below_ext wr p5)
        generalize ext wr p5 = w5 at HB5 ⊢
        simp only [Array.getD_eq_getD_getElem?, List.getElem?_toArray, List.getElem?_cons_succ, List.getElem?_cons_zero, Option.getD_some]
        have HKM := Lib.hid (And.intro hk1 (And.intro hcm hkm))
        have HG5 := Lib.hid (show w5.heap[w.heap.size]? = some (.cells (fillV v m k).toArray 34 (0, 0)) from (HB5.out.block _ (by have := (Array.getElem?_eq_some_iff.1 HG.out).1; exact this)).trans HG.out)
        have HC5 := Lib.hid (HCc.out w5 HB5.out)
        have HB55 := Lib.hid (HB.out.st HB5.out)
        have hkc : (k : Int) + (c : Int) ≤ 60000 := by omega
        clear HCc hkm hk1 hk hlt hcm hkm1
        go_wp2_with (refine wpList_copy_splice rfl (.tmp 41) (.tmp 44) 41 41 rfl 34 Tryz.underlying41 (by kernel_rfl) (some ⟨w.heap.size, k, none⟩) (some ⟨w.heap.size, 0, none⟩) (m - k) (m - k) k m ?_ ?_ w.heap.size k (fillV v m k) 34 HG5.out (List.replicate c (.int .u64 v)) HNc.out (fun _ => ⟨rfl, _, rfl, HC5.out⟩) HFc.out HOc.out w.heap.size w HB55.out (Nat.le_refl _) ?_; (· rfl); (· rfl); intro w6 hg6 hb6; (have HG6 := hg6); (have HB6 := Lib.hid hb6); clear hb6; simp only [List.length_replicate])
        have HG7 := Lib.hid (by have := HG6.out; rw [HSP.out] at this; exact this : w6.heap[w.heap.size]? = some (.cells (fillV v m (k + c)).toArray 34 (0, 0)))
        obtain ⟨hk1, hcm, hkm⟩ := HKM.out
        go_roundg (m - (k + c))
        case measure => (have := HGG.out; omega)
        case rel => exact ⟨k + c, by omega, HKM.out.2.1, Nat.le_refl _, by go_num, HG7.out, HB6.out⟩
      · obtain rfl : m = k := by omega
        go_wp2
        go_ret
        refine ⟨rfl, raw_owns (xs := (List.replicate m v).map encW) ?_ (Nat.le_refl _) (by simp) (by omega), HB.out⟩
        have := HG.out
        rwa [fillV_end] at this
end Go.Proofs.YtkdomobedfhhgaaGreat
end

section
namespace Go.Proofs.YtkdomobedfhhgaaGreat
open Go Go.Proofs Go.RowKit
/-- each operation is waited for by a later one, and the last one waits for none but those ahead -/
def lastB (l : List Oper) (n : Nat) (st : Oper) : Bool :=
  st.guard.isNone && (st.after.all fun e => !Region.binds .any e || decide (e.on < n)) && ((List.range n).all fun i => (List.range (n + 1)).any fun j => decide (i < j) && Region.waitsFor .any l.toArray j i)
section
variable {a : Act} {P : Program} {Q : Exit → Act → World → Prop} {w : World}
theorem wpIn_region_vals_st {id rl m : Nat} {l : List Oper} (n : Nat) (st : Oper) (vals : List Value) (hst : l = l.take n ++ [st]) (hln : (l.take n).length = n) (hdf : noDefK l = true) (hm : P.follows .mixedOrders = true) (hB : growB (l.take n) a.tmps.size = true) (hS : lastB l n st = true)
    (hop : opsAll (fun i o => ∀ (vs : Nat → Value) w', Below w.heap.size w w' → (∀ j, depB l i j = true → vs j = vals.getD j undef) →
      ∀ K : Act → World → Prop, (∀ w'', Below w'.heap.size w' w'' → K ((puts a (dstAt l) vs n).put o.dst (vals.getD i undef)) w'') → o.wp P (puts a (dstAt l) vs n) w' K Q) 0 (l.take n))
    (hend : ∀ w', Below w.heap.size w w' → st.wp P (puts a (dstAt l) (fun i => vals.getD i undef) n) w' (fun a' w' => Q .normal a' w') Q) : (Code.region id l.toArray true).wpIn (Fence.wide.inRound rl) m P Q a w := by
  obtain ⟨h, hh⟩ : ∃ h, h = l.take n := ⟨_, rfl⟩
  rw [← hh] at hst hln hB hop
  have hlen : l.length = n + 1 := by rw [hst, List.length_append, hln]; rfl
  have hat : ∀ i, i < n → l[i]? = h[i]? := fun i hi => by rw [hst, List.getElem?_append_left (by omega)]
  have hda : ∀ i, i < n → dstAt l i = dstAt h i := fun i hi => by unfold dstAt; rw [hat i hi]
  have hput : ∀ vs m, m ≤ n → puts a (dstAt l) vs m = puts a (dstAt h) vs m := by
    intro vs m
    induction m with
    | zero => intro _; rfl
    | succ m ih =>
      intro hm
      show Act.put _ _ _ = Act.put _ _ _
      rw [ih (by omega), hda m (by omega)]
  have hdb : ∀ i, i < n → ∀ j, depB l i j = depB h i j := fun i hi j => by unfold depB; rw [hat i hi]
  have hatn : l[n]? = some st := by rw [hst, List.getElem?_append_right (by omega), hln, Nat.sub_self]; rfl
  have hg := fun i (hi : i < n) => growB_at hB (List.getElem?_eq_getElem (show i < h.length by omega))
  have hds : ∀ i o, h[i]? = some o → o.dst = some (dstAt h i) := fun i o hi => by
    have k := (growB_at hB hi).1
    obtain ⟨d, hd⟩ := Option.isSome_iff_exists.1 k
    unfold dstAt
    rw [hi]
    simp [hd]
  have hdep : ∀ i o, h[i]? = some o → ∀ j, depB h i j = true → ∃ e ∈ o.after, Region.binds .any e = true ∧ e.on = j := fun i o hi j k => by
    unfold depB at k
    simp only [hi] at k
    obtain ⟨e, he, h2⟩ := List.any_eq_true.1 k
    simp only [Bool.and_eq_true, beq_iff_eq] at h2
    exact ⟨e, Array.mem_toList_iff.1 he, h2⟩
  have hD : ∀ i, i < n → dstAt h i < a.tmps.size := fun i hi => (hg i hi).2.2.1
  have hinj : ∀ i j, i < n → j < n → dstAt h i = dstAt h j → i = j := fun i j hi hj e => by
    rcases Nat.lt_trichotomy i j with k | k | k
    · exact absurd e ((hg j hj).2.2.2.2 i k)
    · exact k
    · exact absurd e.symm ((hg i hi).2.2.2.2 j k)
  unfold lastB at hS
  simp only [Bool.and_eq_true] at hS
  obtain ⟨⟨s1, s2⟩, s3⟩ := hS
  have hsd : ∀ e ∈ st.after, Region.binds .any e = true → e.on < n := fun e he hb => by
    rw [Array.all_eq_true_iff_forall_mem] at s2
    have := s2 e he
    rw [hb] at this
    simpa using this
  have hwait : ∀ i, i < n → ∃ j, i < j ∧ j ≤ n ∧ ∃ o, l[j]? = some o ∧ ∃ e ∈ o.after, Region.binds .any e = true ∧ e.on = i := fun i hi => by
    have k1 := List.all_eq_true.1 s3 i (List.mem_range.2 hi)
    obtain ⟨j, hj, k2⟩ := List.any_eq_true.1 k1
    simp only [Bool.and_eq_true, decide_eq_true_eq] at k2
    obtain ⟨o, ho, k3⟩ := Region.waitsFor_spec k2.2
    exact ⟨j, k2.1, by have := List.mem_range.1 hj; omega, o, by simpa using ho, k3⟩
  have ha := puts_of (a := a) (a' := a) hinj rfl rfl hD (fun _ _ => rfl)
  refine wpIn_region_inv hdf hm (fun listed a' w' => listed.size = n + 1 ∧ ((listed.getD n false = false ∧ (∀ i o, i < n → l[i]? = some o → listed.getD i false = true → ∀ e ∈ o.after, Region.binds .any e = true → listed.getD e.on false = true) ∧
    ∃ (vs : Nat → Value), a' = puts a (dstAt h) vs n ∧ Below w.heap.size w w' ∧ (∀ i, i < n → listed.getD i false = true → vs i = vals.getD i undef)) ∨ ((∀ i, i < n + 1 → listed.getD i false = true) ∧ Q .normal a' w'))) ?_ ?_ ?_
  · have hz : ∀ i, ¬ (Array.replicate l.toArray.size false).getD i false = true := fun i k => by
      rw [getD_replicate_false] at k
      cases k
    refine ⟨by simp [hlen], .inl ⟨?_, fun i o _ _ k => absurd k (hz i), _, ha, (Below.refl _ w).drew, fun i _ k => absurd k (hz i)⟩⟩
    cases k : (Array.replicate l.toArray.size false).getD n false with
    | false => rfl
    | true => exact absurd k (hz n)
  · rintro listed a' w' i ⟨hsz, h1 | ⟨hall, -⟩⟩ hi
    · obtain ⟨hn0, hcl, vs, rfl, hb, hR⟩ := h1
      obtain ⟨h1, o, h2, h3⟩ := mem_ready.1 hi
      have h2' : l[i]? = some o := by simpa using h2
      have hlt : i < n + 1 := by have := (List.getElem?_eq_some_iff.1 h2').1; omega
      have hun : ∀ j, listed.getD j false = true → j ≠ i := by
        rintro j hj rfl
        have := getD_both h1
        rw [this] at hj
        cases hj
      by_cases hin : i < n
      · have h2h : h[i]? = some o := (hat i hin).symm.trans h2'
        have hdo := hds i o h2h
        have hgo := (growB_at hB h2h).2.1
        unfold wpOpIn
        simp only [h2]
        rw [if_pos (by simp [Region.wanted, Option.isNone_iff_eq_none.1 hgo])]
        have hopi := opsAll_get h 0 hop i o h2h
        rw [Nat.zero_add] at hopi
        simp only [hput _ n (Nat.le_refl _)] at hopi
        refine Oper.wpIn_of_wp (hopi vs w' hb (fun j hj => ?_) _ (fun w'' hb2 => ?_))
        · rw [hdb i hin] at hj
          obtain ⟨e, he, hb', rfl⟩ := hdep i o h2h j hj
          have h4 := h3 e he hb'
          have h5 := (growB_at hB h2h).2.2.2.1 e he hb'
          exact hR _ (by omega) h4
        · have hset : ∀ j, (listed.setIfInBounds i true).getD j false = true → j = i ∨ (j ≠ i ∧ listed.getD j false = true) := fun j hl => by
            by_cases e : j = i
            · exact .inl e
            · rw [getD_set_ne false (fun k => e k.symm)] at hl
              exact .inr ⟨e, hl⟩
          have hkeep : ∀ j, listed.getD j false = true → (listed.setIfInBounds i true).getD j false = true := fun j hl => by
            rw [getD_set_ne false (fun k => hun j hl k.symm)]
            exact hl
          refine ⟨by simp [hsz], .inl ⟨by rw [getD_set_ne false (by omega)]; exact hn0, ?_, updV vs i (vals.getD i undef), ?_, hb.st hb2, ?_⟩⟩
          · intro j oj hjn hj hl e he hb'
            rcases hset j hl with rfl | ⟨hji, hl'⟩
            · rw [h2'] at hj
              cases hj
              exact hkeep _ (h3 e he hb')
            · exact hkeep _ (hcl j oj hjn hj hl' e he hb')
          · rw [hdo]
            exact puts_put hinj hD hin
          · intro j hj hl
            rcases hset j hl with rfl | ⟨hji, hl'⟩
            · exact if_pos rfl
            · rw [show updV vs i (vals.getD i undef) j = vs j from if_neg hji]
              exact hR j hj hl'
      · obtain rfl : i = n := by omega
        have ho : o = st := Option.some.inj (h2'.symm.trans hatn)
        subst ho
        have hall : ∀ d j, i - j = d → j < i → listed.getD j false = true := by
          intro d
          induction d using Nat.strongRecOn with
          | _ d ih =>
            intro j hd hj
            obtain ⟨k, k1, k2, ok, k3, e, he, hb', rfl⟩ := hwait j hj
            by_cases hk : k = i
            · subst hk
              rw [h2'] at k3
              cases k3
              exact h3 e he hb'
            · exact hcl k ok (by omega) k3 (ih (i - k) (by omega) k rfl (by omega)) e he hb'
        have hvs : ∀ k, k ≤ i → puts a (dstAt h) vs k = puts a (dstAt h) (fun i => vals.getD i undef) k := by
          intro k
          induction k with
          | zero => intro _; rfl
          | succ k ih =>
            intro hk
            show Act.put _ _ _ = Act.put _ _ _
            rw [ih (by omega), hR k (by omega) (hall _ k rfl (by omega))]
        unfold wpOpIn
        simp only [h2]
        rw [if_pos (by simp [Region.wanted, Option.isNone_iff_eq_none.1 s1])]
        rw [hvs i (Nat.le_refl _), ← hput _ i (Nat.le_refl _)]
        refine Oper.wpIn_of_wp (Oper.wp_mono (fun a1 w1 hq => ?_) (hend w' hb))
        refine ⟨by simp [hsz], .inr ⟨fun j hj => ?_, hq⟩⟩
        by_cases e : j = i
        · subst e
          rw [Array.getD_eq_getD_getElem?, Array.getElem?_setIfInBounds_self_of_lt (by omega)]
          rfl
        · rw [getD_set_ne false (fun k => e k.symm)]
          exact hall _ j rfl (by omega)
    · obtain ⟨h1, o, h2, h3⟩ := mem_ready.1 hi
      have h2' : l[i]? = some o := by simpa using h2
      have hlt : i < n + 1 := by have := (List.getElem?_eq_some_iff.1 h2').1; omega
      have := hall i hlt
      rw [getD_both h1] at this
      cases this
  · rintro listed a' w' ⟨hsz, h1 | ⟨-, hq⟩⟩ hr
    · obtain ⟨hn0, hcl, vs, rfl, hb, hR⟩ := h1
      exfalso
      have hall : ∀ d i, i = d → i < n + 1 → listed.getD i false = true := by
        intro d
        induction d using Nat.strongRecOn with
        | _ d ih =>
          rintro i rfl hi
          cases hl : listed.getD i false with
          | true => rfl
          | false =>
            have hin : i ∈ Region.ready .any l.toArray listed := by
              refine mem_ready.2 ⟨Go.getD_in (by omega) hl, l[i]'(by omega), by simp [hlen, hi], fun e he hb' => ?_⟩
              have h6 : e.on < i := by
                by_cases k : i < n
                · have h7 : h[i]? = some (l[i]'(by omega)) := by rw [← hat i k, List.getElem?_eq_getElem (by omega)]
                  exact (growB_at hB h7).2.2.2.1 e he hb'
                · obtain rfl : i = n := by omega
                  have h8 : l[i]'(by omega) = st := Option.some.inj ((List.getElem?_eq_getElem (by omega)).symm.trans hatn)
                  rw [h8] at he
                  exact hsd e he hb'
              exact ih e.on h6 e.on rfl (by omega)
            rw [hr] at hin
            cases hin
      have := hall n n rfl (by omega)
      rw [hn0] at this
      cases this
    · exact hq
/-- slots that no operation ahead of the last one writes -/
def offB (l : List Oper) (n t : Nat) : Bool := (List.range n).all fun i => dstAt l i != t
/-- the same, the frame unseen: what is asked of each operation is what its operands are -/
theorem wpIn_region_act_st {id rl m : Nat} {l : List Oper} (n : Nat) (st : Oper) (vals : List Value) (hst : l = l.take n ++ [st]) (hln : (l.take n).length = n) (hdf : noDefK l = true) (hm : P.follows .mixedOrders = true) (hB : growB (l.take n) a.tmps.size = true) (hS : lastB l n st = true)
    (hop : opsAll (fun i o => ∀ (act : Act) w', Below w.heap.size w w' → (∀ j, depB l i j = true → act.tmps.getD (dstAt l j) undef = vals.getD j undef) → (∀ t, offB l n t = true → act.tmps.getD t undef = a.tmps.getD t undef) →
      ∀ K : Act → World → Prop, (∀ w'', Below w'.heap.size w' w'' → K (act.put o.dst (vals.getD i undef)) w'') → o.wp P act w' K Q) 0 (l.take n))
    (hend : ∀ act w', Below w.heap.size w w' → (∀ j, j < n → act.tmps.getD (dstAt l j) undef = vals.getD j undef) → act = puts a (dstAt l) (fun i => vals.getD i undef) n → st.wp P act w' (fun a' w' => Q .normal a' w') Q) : (Code.region id l.toArray true).wpIn (Fence.wide.inRound rl) m P Q a w := by
  have hat : ∀ i, i < n → l[i]? = (l.take n)[i]? := fun i hi => by rw [List.getElem?_take_of_lt hi]
  have hda : ∀ i, i < n → dstAt l i = dstAt (l.take n) i := fun i hi => by unfold dstAt; rw [hat i hi]
  have hg := fun i (hi : i < n) => growB_at hB (List.getElem?_eq_getElem (show i < (l.take n).length by omega))
  have hD : ∀ i, i < n → dstAt l i < a.tmps.size := fun i hi => by rw [hda i hi]; exact (hg i hi).2.2.1
  have hinj : ∀ i j, i < n → j < n → dstAt l i = dstAt l j → i = j := fun i j hi hj e => by
    rw [hda i hi, hda j hj] at e
    rcases Nat.lt_trichotomy i j with k | k | k
    · exact absurd e ((hg j hj).2.2.2.2 i k)
    · exact k
    · exact absurd e.symm ((hg i hi).2.2.2.2 j k)
  have hon : ∀ vs j, j < n → (puts a (dstAt l) vs n).tmps.getD (dstAt l j) undef = vs j := fun vs j hj => by
    rw [Array.getD_eq_getD_getElem?, puts_on hinj hj (hD j hj)]
    rfl
  have hoff : ∀ vs t, offB l n t = true → (puts a (dstAt l) vs n).tmps.getD t undef = a.tmps.getD t undef := fun vs t ht => by
    rw [Array.getD_eq_getD_getElem?, Array.getD_eq_getD_getElem?, puts_off (fun i hi e => by
      have := List.all_eq_true.1 ht i (List.mem_range.2 hi)
      simp [e] at this)]
  refine wpIn_region_vals_st n st vals hst hln hdf hm hB hS ?_ (fun w' hb => hend _ w' hb (fun j hj => hon _ j hj) rfl)
  have key : ∀ (k : Nat) (ll : List Oper), (∀ i o, ll[i]? = some o → l[k + i]? = some o ∧ k + i < n) → opsAll (fun i o => ∀ (act : Act) w', Below w.heap.size w w' → (∀ j, depB l i j = true → act.tmps.getD (dstAt l j) undef = vals.getD j undef) → (∀ t, offB l n t = true → act.tmps.getD t undef = a.tmps.getD t undef) →
      ∀ K : Act → World → Prop, (∀ w'', Below w'.heap.size w' w'' → K (act.put o.dst (vals.getD i undef)) w'') → o.wp P act w' K Q) k ll → opsAll (fun i o => ∀ (vs : Nat → Value) w', Below w.heap.size w w' → (∀ j, depB l i j = true → vs j = vals.getD j undef) →
      ∀ K : Act → World → Prop, (∀ w'', Below w'.heap.size w' w'' → K ((puts a (dstAt l) vs n).put o.dst (vals.getD i undef)) w'') → o.wp P (puts a (dstAt l) vs n) w' K Q) k ll := by
    intro k ll
    induction ll generalizing k with
    | nil => intro _ _; trivial
    | cons o ll ih =>
      intro hll h
      refine ⟨fun vs w' hb hd K hK => ?_, ih (k + 1) (fun i o' hi => by
        have := hll (i + 1) o' (by simpa using hi)
        rw [show k + 1 + i = k + (i + 1) by omega]
        exact this) h.2⟩
      obtain ⟨h0, h1⟩ := hll 0 o rfl
      rw [Nat.add_zero] at h0 h1
      refine h.1 _ w' hb (fun j hj => ?_) (fun t ht => hoff vs t ht) K hK
      have hj2 : j < n := by
        have h2 := hat k h1
        rw [h0] at h2
        have h3 := (growB_at hB h2.symm).2.2.2.1
        unfold depB at hj
        simp only [h0] at hj
        obtain ⟨e, he, k2⟩ := List.any_eq_true.1 hj
        simp only [Bool.and_eq_true, beq_iff_eq] at k2
        have := h3 e (Array.mem_toList_iff.1 he) k2.1
        omega
      rw [hon vs j hj2]
      exact hd j hj
  exact key 0 (l.take n) (fun i o hi => by
    have hl := (List.getElem?_eq_some_iff.1 hi).1
    rw [Nat.zero_add]
    exact ⟨(hat i (by omega)).trans hi, by omega⟩) hop
end
end Go.Proofs.YtkdomobedfhhgaaGreat
end
