/-
  Package cmd: the command of any line, by both; the example; a command as the reference has it.
  The walk of the statement CmdParses: whatever the line, the law answers true.
-/
import Derived.Test.YtelcmkccfjdmjaaGreatDoorProg
import Derived.Test.YtelcmkccfjdmjaaGreatDoorCmL
import Derived.Deep.RegionHeld3
namespace Go.Proofs.YtelcmkccfjdmjaaGreatDoor
open Go Go.Proofs Go.RowKit Go.Shelf Go.Sort

theorem refCmdParse_any (s : ByteArray) (w : World) (hs : s.size ≤ 65536) (hx : ∀ x ∈ (wordsF s).1, x.size ≤ 4096) :
    Calls Tryz.prog 64 #[.string s] w (CParsePost w (parseC s)) := by
  by_cases h : (wordsF s).2 ≠ 0 ∨ (wordsF s).1 = []
  · exact refCmdParse_none s w hs h
  · have h0 : (wordsF s).2 = 0 := Classical.byContradiction fun e => h (.inl e)
    have h1 : (wordsF s).1 ≠ [] := fun e => h (.inr e)
    obtain ⟨a, tl, e⟩ := List.exists_cons_of_ne_nil h1
    have hw : wordsF s = (a :: tl, 0) := Prod.ext e h0
    cases hk : isNm (upS a) with
    | false =>
      have : parseC s = (cmd0, 10) := by
        unfold parseC
        rw [hw, if_neg (fun h => h rfl)]
        simp only
        rw [if_neg (by rw [hk]; decide)]
      rw [this]
      exact refCmdParse_unknown s a tl w hs hw hk
    | true =>
      rw [parseC_some hw hk]
      by_cases hl : upS a = loadC
      · rw [hl]
        exact refCmdParse_load s a tl w hs hw hk hl
      · by_cases hb : upS a = buildC
        · rw [hb]
          exact refCmdParse_build s a tl w hs (fun x h => hx x (by rw [hw]; exact List.mem_cons_of_mem _ h)) hw hk hb
        · exact refCmdParse_kinds s a tl w hs hw hk hl hb

theorem foldC_bare : ∀ (ks : List UInt8) (c : CmD) (tl : List ByteArray) (p : Nat), Bare c p → ∃ q, q ≤ p + ks.length ∧ Bare (foldC c ks tl).1 q
  | [], c, tl, p, h => ⟨p, by simp, by rw [foldC]; exact h; intro k ks x xs h; cases h⟩
  | k :: ks, c, [], p, h => ⟨p, by simp, by rw [foldC]; exact h; intro k ks x xs h h2; cases h2⟩
  | k :: ks, c, x :: xs, p, h => by
    rw [foldC]
    split
    · obtain ⟨q, hq, hb⟩ := foldC_bare ks _ xs _ (h.step k x)
      exact ⟨q, by simp; omega, hb⟩
    · exact ⟨0, by omega, rfl, rfl, rfl, Nat.le_refl _, Nat.le_refl _⟩
theorem parseG_small (l : List ByteArray) : (parseG l).1.es.length ≤ 16384 := by
  unfold parseG
  split
  · simp
  · split
    · simp
    · rename_i e1 e2
      rw [show ((⟨valK l 0, fullEs l (valK l 1).toNat⟩, 0, 0) : GD × Int × Int).1.es = fullEs l (valK l 1).toNat from rfl, fullEs_length]
      have hu : Upto l (needP l) := fun j hj => by
        unfold firstBad at e1
        rw [List.find?_eq_none] at e1
        have := e1 j (List.mem_range.2 hj)
        simpa using this
      have hm := hu.m (needP_two l)
      omega
theorem rankP_small (s : ByteArray) : (rankP s).1.length ≤ s.size + 1 := by
  unfold rankP
  split
  · simp
  · split
    · simp
    · split
      · simp
      · show (valsK (partsS 44 s)).length ≤ _
        have := @partsS_count 44 s
        unfold valsK
        rw [List.length_map]
        omega
theorem SmallC.zero : SmallC cmd0 := ⟨by simp [cmd0], by simp [cmd0], by simp [cmd0], by simp [cmd0]⟩
theorem restC_small {nm : ByteArray} {tl : List ByteArray} (h : isNm nm = true) (hl : tl.length ≤ 70000) (hs : ∀ x ∈ tl, x.size ≤ 65536) : SmallC (restC nm tl).1 := by
  unfold restC
  split
  · split
    · exact ⟨by simp [cmd0], by simp [cmd0], Nat.le_trans (parseG_small tl) (by omega), by simp [cmd0]⟩
    · exact SmallC.zero
  · rename_i h1
    split
    · match tl, hs with
      | [], _ => exact ⟨by simp [cmd0], by simp [cmd0], by simp [cmd0], by simp [cmd0]⟩
      | [x], hs =>
        simp only
        split
        · exact ⟨by simp [cmd0], by simp [cmd0], by simp [cmd0], Nat.le_trans (rankP_small x) (by have := hs x (by simp); omega)⟩
        · exact SmallC.zero
      | x :: y :: t, _ => exact SmallC.zero
    · rename_i h2
      split
      · rename_i h3
        obtain ⟨-, -, -, hz⟩ := kindsBoth_any (n := tl.length) h h1 h2 (by omega)
        have hz := hz h3
        obtain ⟨q, hq, hb⟩ := foldC_bare (kindsC nm tl.length).1.data.toList { cmd0 with name := nm } tl 0 ⟨rfl, rfl, rfl, Nat.le_refl _, Nat.le_refl _⟩
        have hq2 : q ≤ 70000 := by
          have : (kindsC nm tl.length).1.data.toList.length = (kindsC nm tl.length).1.size := rfl
          omega
        obtain ⟨-, e1, e2, b1, b2⟩ := hb
        exact ⟨by omega, by omega, by rw [e1]; simp, by rw [e2]; simp⟩
      · exact SmallC.zero
theorem parseC_small {s : ByteArray} (hs : s.size ≤ 65536) : SmallC (parseC s).1 := by
  obtain ⟨h1, h2⟩ := wordsF_sz s
  unfold parseC
  split
  · exact SmallC.zero
  · split
    · exact SmallC.zero
    · rename_i a tl e
      rw [e] at h1 h2
      split
      · rename_i hk
        exact restC_small hk (by simp at h2; omega) (fun x hx => Nat.le_trans (h1 x (by simp [hx])) hs)
      · exact SmallC.zero

set_option maxRecDepth 100000 in
set_option maxHeartbeats 4000000 in
theorem cmOf_any (c : CmD) (v : List Value) (w : World) (hc : CmV w c v) : Calls Tryz.prog 25 #[.agg v.toArray] w fun e w' => e = .returned (.agg v.toArray) ∧ Below w.heap.size w w' := by
  obtain ⟨ai, ci, aq, cq, ag, cg, ak, ck, rfl, -⟩ := hc
  go_enter Tryz.func25, Tryz.ntmps25
  go_wp2
  refine bodyPost_ret (v := .agg #[.string c.name, .slice ai c.ints.length ci, .int .u64 c.w, .slice aq c.rats.length cq, .int .i64 c.gn, .slice ag c.ge.length cg, .slice ak c.rank.length ck]) (by simp [results, Tryz.results25, go_sem]; try rfl) rfl ?_
  exact ⟨rfl, (Below.of_al _ _).al _⟩

theorem parseC_ex : parseC ⟨#[100, 105, 115, 116, 32, 48, 32, 51]⟩ = (⟨cb [68, 73, 83, 84], [0, 3], 0, [], 0, [], []⟩, 0) := by decide +kernel
set_option maxRecDepth 100000 in
set_option maxHeartbeats 4000000 in
theorem alive40_any (w : World) : Calls Tryz.prog 22 #[] w fun e w' => e = .returned (.bool true) ∧ Below w.heap.size w w' := by
  have HP := Lib.hid (fun W => cmdParse_any ⟨#[100, 105, 115, 116, 32, 48, 32, 51]⟩ W (by decide))
  rw [parseC_ex] at HP
  unfold CParsePost at HP
  have hn : ((cb [68, 73, 83, 84]).toList == ([68, 73, 83, 84] : List UInt8)) = true := by decide +kernel
  go_enter Tryz.func22, Tryz.ntmps22
  go_wp2_with (go_at_call 28; refine (HP.out _).mono ?_; rintro e w1 ⟨v, ⟨ai, ci, aq, cq, ag, cg, ak, ck, rfl, h1, -⟩, rfl, hb1⟩; (have H1 := Lib.hid (show Cel w1 ai ([0, 3].map encI) from h1); have HB1 := Lib.hid hb1; clear h1 hb1))
  obtain ⟨W2, hW2⟩ : ∃ W2, W2 = w1.alloc (Obj.cells #[.string (cb [68, 73, 83, 84]), .slice ai 2 ci, .int .u64 0, .slice aq 0 cq, .int .i64 0, .slice ag 0 cg, .slice ak 0 ck] 55) := ⟨_, rfl⟩
  have hz : w1.heap.size + 1 = W2.heap.size := by rw [hW2]; simp
  have hb2 : Below w1.heap.size w1 W2 := by rw [hW2]; exact Below.of_al _ _
  rw [← hW2, hz]
  clear hW2 hz
  refine (sameInts_any ai (some ⟨W2.heap.size, 0, none⟩) ci 2 [0, 3] [0, 3] _ (by decide) (by decide) ((H1.out.go hb2).go (Below.of_al _ _)) (cel_new _ _ _ _)).mono ?_
  rintro e w3 ⟨rfl, n3, rfl⟩
  have HB2 := Lib.hid (HB1.out.st hb2)
  clear hb2
  go_wp2
  go_ret
  exact ⟨rfl, (HB2.out.al _).dr _⟩

end Go.Proofs.YtelcmkccfjdmjaaGreatDoor

namespace Go.Proofs.YtelcmkccfjdmjaaGreatDoor
open Go Go.Proofs Go.RowKit Go.Shelf Go.Sort

theorem s15_next {W w1 w2 : World} {b c : Nat} {v0 v1 v2 v3 v4 v5 v6 u0 u1 u2 u3 u4 u5 u6 : Value} (hb : Below w1.heap.size w1 w2)
    (h : w1.cell? ⟨b, 0, none⟩ = some v0 ∧ w1.cell? ⟨b, 1, none⟩ = some v1 ∧ w1.cell? ⟨b, 2, none⟩ = some v2 ∧ w1.cell? ⟨b, 3, none⟩ = some v3 ∧ w1.cell? ⟨b, 4, none⟩ = some v4 ∧ w1.cell? ⟨b, 5, none⟩ = some v5 ∧ w1.cell? ⟨b, 6, none⟩ = some v6 ∧
      w1.cell? ⟨c, 0, none⟩ = some u0 ∧ w1.cell? ⟨c, 1, none⟩ = some u1 ∧ w1.cell? ⟨c, 2, none⟩ = some u2 ∧ w1.cell? ⟨c, 3, none⟩ = some u3 ∧ w1.cell? ⟨c, 4, none⟩ = some u4 ∧ w1.cell? ⟨c, 5, none⟩ = some u5 ∧ w1.cell? ⟨c, 6, none⟩ = some u6 ∧ Below W.heap.size W w1) :
    w2.cell? ⟨b, 0, none⟩ = some v0 ∧ w2.cell? ⟨b, 1, none⟩ = some v1 ∧ w2.cell? ⟨b, 2, none⟩ = some v2 ∧ w2.cell? ⟨b, 3, none⟩ = some v3 ∧ w2.cell? ⟨b, 4, none⟩ = some v4 ∧ w2.cell? ⟨b, 5, none⟩ = some v5 ∧ w2.cell? ⟨b, 6, none⟩ = some v6 ∧
      w2.cell? ⟨c, 0, none⟩ = some u0 ∧ w2.cell? ⟨c, 1, none⟩ = some u1 ∧ w2.cell? ⟨c, 2, none⟩ = some u2 ∧ w2.cell? ⟨c, 3, none⟩ = some u3 ∧ w2.cell? ⟨c, 4, none⟩ = some u4 ∧ w2.cell? ⟨c, 5, none⟩ = some u5 ∧ w2.cell? ⟨c, 6, none⟩ = some u6 ∧ Below W.heap.size W w2 := by
  obtain ⟨h0, h1, h2, h3, h4, h5, h6, k0, k1, k2, k3, k4, k5, k6, hW⟩ := h
  exact ⟨cell_later hb h0, cell_later hb h1, cell_later hb h2, cell_later hb h3, cell_later hb h4, cell_later hb h5, cell_later hb h6, cell_later hb k0, cell_later hb k1, cell_later hb k2, cell_later hb k3, cell_later hb k4, cell_later hb k5, cell_later hb k6, hW.st hb⟩

end Go.Proofs.YtelcmkccfjdmjaaGreatDoor
