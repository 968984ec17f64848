/-
  The parts of a text between the signs that part it: plain Lean, and the library's iterator that tells them.
-/
import Derived.Test.YtelcmkccfjdmjaaDoorProg
import Derived.Test.YtelcmkccfjdmjaaDoorShelf
import Derived.Test.YtelcmkccfjdmjaaDoorRangeC
import Derived.RangeFuncNested
import Derived.RangeFuncBound
import Derived.Shelf.Abstract
import Derived.Shelf.RegionOpen
import Derived.WalkKit
import Derived.OwnWalkIn
import Derived.TacticsInMore
import Derived.LoopNIn
import Derived.LoopIn
namespace Go.Proofs.YtelcmkccfjdmjaaDoor
open Go Go.Proofs Go.RowKit Go.Shelf

def splitB (c : UInt8) : List UInt8 → List (List UInt8)
  | [] => [[]]
  | x :: r => if x = c then [] :: splitB c r else (x :: (splitB c r).headD []) :: (splitB c r).tail
theorem splitB_ne (c : UInt8) : ∀ l, splitB c l ≠ []
  | [] => by simp [splitB]
  | x :: r => by unfold splitB; split <;> simp
theorem splitB_cons (c : UInt8) (l : List UInt8) : ∃ h t, splitB c l = h :: t := by
  cases e : splitB c l with
  | nil => exact absurd e (splitB_ne c l)
  | cons h t => exact ⟨h, t, rfl⟩
theorem splitB_none (c : UInt8) : ∀ l, Lib.indexByte l c = -1 → splitB c l = [l]
  | [], _ => rfl
  | x :: r, h => by
    unfold Lib.indexByte at h
    by_cases e : x = c
    · subst e; simp at h
    · have e2 : (x == c) = false := by simpa using e
      rw [e2] at h
      simp only [Bool.false_eq_true, if_false] at h
      have hg := Lib.indexByte_ge r c
      have h2 : Lib.indexByte r c = -1 := by
        split at h
        · simp_all
        · omega
      unfold splitB
      rw [if_neg e, splitB_none c r h2]
      rfl
theorem splitB_some (c : UInt8) : ∀ (l : List UInt8) (i : Nat), Lib.indexByte l c = (i : Int) → splitB c l = l.take i :: splitB c (l.drop (i + 1))
  | [], i, h => by unfold Lib.indexByte at h; omega
  | x :: r, i, h => by
    unfold Lib.indexByte at h
    by_cases e : x = c
    · subst e
      simp at h
      obtain rfl : i = 0 := by omega
      rw [splitB.eq_2, if_pos rfl]
      rfl
    · have e2 : (x == c) = false := by simpa using e
      rw [e2] at h
      simp only [Bool.false_eq_true, if_false] at h
      split at h
      · omega
      · obtain ⟨j, rfl⟩ : ∃ j, i = j + 1 := ⟨i - 1, by have := Lib.indexByte_ge r c; rename_i hh; simp at hh; omega⟩
        have ih := splitB_some c r j (by omega)
        rw [splitB.eq_2, if_neg e, ih]
        rfl

/-- the parts of a text -/
def partsS (c : UInt8) (s : ByteArray) : List ByteArray := (splitB c s.data.toList).map fun l => ⟨l.toArray⟩
theorem ext_data (s : ByteArray) (i j : Nat) : (s.extract i j).data.toList = (s.data.toList.take j).drop i := by
  rw [ByteArray.data_extract]
  simp [List.extract_eq_take_drop, List.drop_take]
theorem ba_of (s : ByteArray) : (⟨s.data.toList.toArray⟩ : ByteArray) = s := by simp
theorem partsS_none {c : UInt8} {s : ByteArray} (h : Lib.indexByte s.data.toList c = -1) : partsS c s = [s] := by
  unfold partsS
  rw [splitB_none c _ h]
  simp
theorem partsS_some {c : UInt8} {s : ByteArray} {i : Nat} (h : Lib.indexByte s.data.toList c = (i : Int)) (hi : i < s.size) : partsS c s = s.extract 0 i :: partsS c (s.extract (i + 1) s.size) := by
  unfold partsS
  rw [splitB_some c _ i h, List.map_cons, ext_data]
  have e1 : (⟨(s.data.toList.take i).toArray⟩ : ByteArray) = s.extract 0 i := by
    apply Go.WideShapes.bytes_inj
    rw [ext_data]
    simp
  have e2 : (s.data.toList.take s.size).drop (i + 1) = s.data.toList.drop (i + 1) := by
    rw [List.take_of_length_le (by simp)]
  rw [e1, e2]
theorem index_lt {s : ByteArray} {c : UInt8} {i : Nat} (h : Lib.indexByte s.data.toList c = (i : Int)) : i < s.size := by
  have := (Lib.indexByte_some h).1
  have := (List.getElem?_eq_some_iff.1 this).1
  simpa using this
theorem partsS_size {c : UInt8} {s : ByteArray} : ∀ x ∈ partsS c s, x.size ≤ s.size := by
  have key : ∀ l, ∀ x ∈ splitB c l, x.length ≤ l.length := by
    intro l
    induction l with
    | nil => intro x hx; simp [splitB] at hx; subst hx; simp
    | cons y r ih =>
      intro x hx
      unfold splitB at hx
      split at hx
      · rcases List.mem_cons.1 hx with rfl | hx
        · simp
        · have := ih x hx; simp; omega
      · obtain ⟨h, t, e⟩ := splitB_cons c r
        rw [e] at hx ih
        rcases List.mem_cons.1 hx with rfl | hx
        · have := ih h (by simp); simp; omega
        · have := ih x (by simp at hx; simp [hx]); simp; omega
  intro x hx
  unfold partsS at hx
  obtain ⟨l, hl, rfl⟩ := List.mem_map.1 hx
  have := key _ l hl
  show l.length ≤ _
  simpa using this
theorem partsS_count {c : UInt8} {s : ByteArray} : (partsS c s).length ≤ s.size + 1 := by
  have key : ∀ l, (splitB c l).length ≤ l.length + 1 := by
    intro l
    induction l with
    | nil => simp [splitB]
    | cons y r ih =>
      unfold splitB
      split
      · simp; omega
      · obtain ⟨h, t, e⟩ := splitB_cons c r
        rw [e] at ih ⊢
        simp at ih ⊢
        omega
  unfold partsS
  rw [List.length_map]
  simpa using key s.data.toList

theorem sIndex_any (s : ByteArray) (c : UInt8) (w : World) :
    Calls Tryd.prog 105 #[.string s, .string ⟨#[c]⟩] w fun e w' => e = .returned (.int .i64 (Lib.indexByte s.data.toList c)) ∧ w' = w := by
  have HI := Lib.hid (Tryd.stringslite_Index_one s c w)
  generalize Lib.indexByte s.data.toList c = r at *
  go_enter Tryd.func105, Tryd.ntmps105
  go_wp2_with (go_at_call 102; refine HI.out.mono ?_; rintro e w1 ⟨rfl, rfl⟩)
  go_ret
  exact ⟨rfl, rfl⟩

/-- what is left in the iterator's cell, as a number -/
def leftC (B : Nat) (w : World) : Nat := match w.cell? ⟨B, 0, none⟩ with
  | some (.string s) => s.size
  | _ => 0

set_option maxHeartbeats 4000000 in
/-- the iterator of strings.SplitSeq, at one sign -/
theorem splitSeq_gives (n : Nat) (hn : 1 ≤ n) (c : UInt8) (s : ByteArray) (B : Nat) (w : World) (hs : s.size ≤ 140737488355328) (h0 : w.cell? ⟨B, 0, none⟩ = some (.string s)) (h0f : w.frozen? ⟨B, 0, none⟩ = false)
    (h1 : w.cell? ⟨B + 1, 0, none⟩ = some (.string ⟨#[c]⟩)) (h2 : w.cell? ⟨B + 2, 0, none⟩ = some (.int .i64 0)) :
    SeqC Fence.wide n Tryd.prog 103 #[.pointer (some ⟨B + 1, 0, none⟩), .pointer (some ⟨B, 0, none⟩), .pointer (some ⟨B + 2, 0, none⟩)] (fun x : ByteArray => #[.string x]) (partsS c s) B w := by
  intro l J Jx W hk hJ hJx hY hJ0
  refine callsIn_of_wp Tryd.func103 rfl trivial ?_ rfl
  simp only [Tryd.ntmps103, List.size_toArray, List.length_cons, List.length_nil, Nat.reduceAdd, Nat.reduceSub, Array.replicate_succ, Array.replicate_zero, List.push_toArray, List.append_toArray, List.nil_append, List.cons_append]
  have e0 : W.cell? ⟨B, 0, none⟩ = some (.string s) := by rw [World.cell?_of_block (w := w) (hk.2 B ⟨Nat.le_refl _, by omega⟩)]; exact h0
  have e1 : W.cell? ⟨B + 1, 0, none⟩ = some (.string ⟨#[c]⟩) := by rw [World.cell?_of_block (w := w) (hk.2 (B + 1) ⟨by omega, by omega⟩)]; exact h1
  have e2 : W.cell? ⟨B + 2, 0, none⟩ = some (.int .i64 0) := by rw [World.cell?_of_block (w := w) (hk.2 (B + 2) ⟨by omega, by omega⟩)]; exact h2
  have f0 : W.frozen? ⟨B, 0, none⟩ = false := by rw [World.frozen?_of_block (w := w) (hk.2 B ⟨Nat.le_refl _, by omega⟩)]; exact h0f
  clear h0 h0f h1 h2
  have HJ := Lib.hid hJ
  have HY := Lib.hid hY
  have HS := Lib.hid hs
  clear hJ hJx hY hs hk
  gi_wp2
  gi_loopw [] (fun wr => ∃ (pre : List ByteArray) (r : ByteArray), Aside (partsS c s = pre ++ partsS c r) ∧ r.size ≤ 140737488355328 ∧ Aside (wr.cell? ⟨B, 0, none⟩ = some (.string r) ∧ wr.frozen? ⟨B, 0, none⟩ = false ∧ wr.cell? ⟨B + 1, 0, none⟩ = some (.string ⟨#[c]⟩) ∧ wr.cell? ⟨B + 2, 0, none⟩ = some (.int .i64 0)) ∧ Aside (J pre wr))
    (fun wr => leftC B wr)
  case atStart => exact ⟨[], s, rfl, HS.out, ⟨e0, f0, e1, e2⟩, hJ0⟩
  case round =>
    clear e0 e1 e2 f0 hJ0
    obtain ⟨pre, r, HP, hr, HC, HJr⟩ := hrel
    obtain ⟨e0, f0, e1, e2⟩ := HC.out
    have HI := Lib.hid (fun W => sIndex_any r c W)
    have hge := Lib.indexByte_ge r.data.toList c
    by_cases hi : Lib.indexByte r.data.toList c = -1
    · rw [hi] at HI
      have HE := Lib.hid (partsS_none hi)
      clear hi hge
      obtain ⟨fn, tmps, assign, body, hy, hR⟩ := HY.out pre r wr HJr.out (by rw [HP.out, HE.out]; exact List.prefix_refl _)
      have HR := Lib.hid hR
      clear hR
      gi_wp2_with (refine ⟨trivial, ?_⟩; gi_at_call 105; refine (callsIn_wide.2 (HI.out _)).mono ?_; rintro e w1 ⟨rfl, rfl⟩)
      refine HR.out.mono ?_
      rintro e W' (⟨rfl, hJ', hk⟩ | ⟨rfl, hJx'⟩)
      · have HJ2 := Lib.hid hJ'
        clear hJ' hk
        gi_wp2
        go_end0
        exact ⟨⟨_, rfl⟩, .inl (by rw [HP.out, HE.out]; exact HJ2.out)⟩
      · have HJ2 := Lib.hid hJx'
        clear hJx'
        gi_wp2
        go_end0
        exact ⟨⟨_, rfl⟩, .inr ⟨pre ++ [r], by rw [HP.out, HE.out]; exact List.prefix_refl _, HJ2.out⟩⟩
    · obtain ⟨i, hi2⟩ : ∃ i : Nat, Lib.indexByte r.data.toList c = (i : Int) := ⟨(Lib.indexByte r.data.toList c).toNat, by omega⟩
      rw [hi2] at HI
      have hlt := index_lt hi2
      have HE := Lib.hid (partsS_some hi2 hlt)
      clear hi hge hi2
      obtain ⟨fn, tmps, assign, body, hy, hR⟩ := HY.out pre (r.extract 0 i) wr HJr.out (by rw [HP.out, HE.out]; exact ⟨partsS c (r.extract (i + 1) r.size), by simp⟩)
      have HR := Lib.hid hR
      clear hR
      gi_wp2_with (refine ⟨trivial, ?_⟩; gi_at_call 105; refine (callsIn_wide.2 (HI.out _)).mono ?_; rintro e w1 ⟨rfl, rfl⟩)
      refine HR.out.mono ?_
      rintro e W' (⟨rfl, hJ', hk⟩ | ⟨rfl, hJx'⟩)
      · have HJ2 := Lib.hid hJ'
        have k0 : W'.cell? ⟨B, 0, none⟩ = some (.string r) := by rw [World.cell?_of_block (w := w1) (hk.2 B ⟨Nat.le_refl _, by omega⟩)]; exact e0
        have k1 : W'.cell? ⟨B + 1, 0, none⟩ = some (.string ⟨#[c]⟩) := by rw [World.cell?_of_block (w := w1) (hk.2 (B + 1) ⟨by omega, by omega⟩)]; exact e1
        have k2 : W'.cell? ⟨B + 2, 0, none⟩ = some (.int .i64 0) := by rw [World.cell?_of_block (w := w1) (hk.2 (B + 2) ⟨by omega, by omega⟩)]; exact e2
        have g0 : W'.frozen? ⟨B, 0, none⟩ = false := by rw [World.frozen?_of_block (w := w1) (hk.2 B ⟨Nat.le_refl _, by omega⟩)]; exact f0
        have HK0 := Lib.hid k0
        have HL0 := Lib.hid e0
        clear hJ' hk e0 e1 e2 f0
        gi_wp2
        go_roundw
        case rel =>
          refine ⟨pre ++ [r.extract 0 i], r.extract (i + 1) r.size, ?_, ?_, ⟨World.cell?_setCell_same _ _ _ k0, ?_, ?_, ?_⟩, HJ.out _ _ _ HJ2.out (.set _ rfl)⟩
          · rw [HP.out, HE.out, List.append_assoc]; rfl
          · rw [ByteArray.size_extract]; omega
          · rw [World.frozen?_setCell]; exact g0
          · rw [World.cell?_setCell_other _ _ _ _ (by simp)]; exact k1
          · rw [World.cell?_setCell_other _ _ _ _ (by simp)]; exact k2
        case measure =>
          have m1 : leftC B w1 = r.size := by unfold leftC; rw [HL0.out]
          have m2 : leftC B (W'.setCell ⟨B, 0, none⟩ (.string (r.extract (i + 1) r.size))) = (r.extract (i + 1) r.size).size := by unfold leftC; rw [World.cell?_setCell_same _ _ _ HK0.out]
          rw [m1, m2, ByteArray.size_extract]
          omega
      · have HJ2 := Lib.hid hJx'
        clear hJx'
        gi_wp2
        refine bodyPost_ret (results_none rfl _ _ _) rfl ?_
        exact ⟨⟨_, rfl⟩, .inr ⟨pre ++ [r.extract 0 i], by rw [HP.out, HE.out]; exact ⟨partsS c (r.extract (i + 1) r.size), by simp⟩, HJ2.out⟩⟩

end Go.Proofs.YtelcmkccfjdmjaaDoor
