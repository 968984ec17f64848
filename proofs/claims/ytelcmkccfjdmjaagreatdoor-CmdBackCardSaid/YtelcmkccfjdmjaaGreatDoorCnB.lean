/-
  Walk of package cmd: the words of a command.
  Commands as lines, in plain Lean: the line of a command, and that both texts have the same.
  Walk of the reference of package cmd: the words of a command.
-/
import Derived.Test.YtelcmkccfjdmjaaGreatDoorProg
import Derived.Test.YtelcmkccfjdmjaaGreatDoorAppAll
import Derived.Lib.AppendZeros
import Derived.Test.YtelcmkccfjdmjaaGreatDoorCmP
import Derived.Test.YtelcmkccfjdmjaaGreatDoorLinesSpec
import Derived.Test.YtelcmkccfjdmjaaGreatDoorGtA
import Derived.Test.YtelcmkccfjdmjaaGreatDoorRkC
import Derived.Test.YtelcmkccfjdmjaaGreatDoorRatioD
import Derived.Test.YtelcmkccfjdmjaaGreatDoorGtC
namespace Go.Proofs.YtelcmkccfjdmjaaGreatDoor
open Go Go.Proofs Go.RowKit Go.Shelf Go.Sort

def itoaT (n : Int) : ByteArray := ⟨(Lib.itoa n).toArray⟩
def refT (n : Int) : ByteArray := printI (max n 0)
theorem itoaT_nonneg {n : Int} (h : 0 ≤ n) : itoaT n = refT n := by
  obtain ⟨u, rfl⟩ := Int.eq_ofNat_of_zero_le h
  unfold itoaT refT
  rw [Lib.itoa_nonneg, Int.max_eq_left h]
  rfl
def setwC : ByteArray := cb [83, 69, 84, 87]
def nearC : ByteArray := cb [78, 69, 65, 82]
def isSW (nm : ByteArray) : Bool := decide (nm = setwC) || decide (nm = nearC)
/-- the words of a command, its integers by t -/
def wordsBy (t : Int → ByteArray) (c : CmD) : List ByteArray :=
  if c.name = loadC then c.name :: (wordsG ⟨c.gn, c.ge⟩).1
  else if c.name = buildC ∧ 0 < c.rank.length then [c.name, textL c.rank]
  else c.name :: (c.ints.map t ++ (c.rats.map (fun q => ratioT q.1 q.2) ++ (if isSW c.name then [printI c.w] else [])))
/-- the line of a command, and the fault -/
def printBy (t : Int → ByteArray) (c : CmD) : ByteArray × Int :=
  if (joinF (wordsBy t c)).2 ≠ 0 then (ByteArray.empty, 1)
  else if parseC (joinF (wordsBy t c)).1 = (c, 0) then ((joinF (wordsBy t c)).1, 0) else (ByteArray.empty, 1)

theorem foldC_nonneg : ∀ (ks : List UInt8) (c : CmD) (tl : List ByteArray), (∀ n ∈ c.ints, 0 ≤ n) → ∀ n ∈ (foldC c ks tl).1.ints, 0 ≤ n
  | [], c, tl, h => by rw [foldC]; · exact h
                       · intro k ks x xs h; cases h
  | k :: ks, c, [], h => by rw [foldC]; · exact h
                            · intro k ks x xs h h2; cases h2
  | k :: ks, c, x :: xs, h => by
    rw [foldC]
    split
    · rename_i h0
      refine foldC_nonneg ks _ xs ?_
      unfold tkC
      split
      · exact h
      · split
        · exact h
        · rename_i h1 h2
          intro n hn
          rcases List.mem_append.1 hn with hn | hn
          · exact h n hn
          · rw [List.mem_singleton] at hn
            subst hn
            unfold tkF at h0
            rw [if_neg h1, if_neg (fun e => h2 (.inl e)), if_neg (fun e => h2 (.inr e))] at h0
            have hl : 0 ≤ leastC k := by unfold leastC; split <;> decide
            by_cases hq : (intI x (mostC k)).2 = 0 ∧ (intI x (mostC k)).1 < leastC k
            · rw [if_pos hq] at h0
              cases h0
            · rw [if_neg hq] at h0
              have : ¬ (intI x (mostC k)).1 < leastC k := fun e => hq ⟨h0, e⟩
              omega
    · intro n hn
      simp [cmd0] at hn
theorem restC_nonneg (nm : ByteArray) (tl : List ByteArray) : ∀ n ∈ (restC nm tl).1.ints, 0 ≤ n := by
  unfold restC
  split
  · split <;> simp [cmd0]
  · split
    · match tl with
      | [] => simp [cmd0]
      | [x] => simp only; split <;> simp [cmd0]
      | x :: y :: t => simp [cmd0]
    · split
      · exact foldC_nonneg _ _ _ (by simp [cmd0])
      · simp [cmd0]
theorem parseC_nonneg (s : ByteArray) : ∀ n ∈ (parseC s).1.ints, 0 ≤ n := by
  unfold parseC
  split
  · simp [cmd0]
  · split
    · simp [cmd0]
    · split
      · exact restC_nonneg _ _
      · simp [cmd0]
/-- by both texts the line of a command is the same -/
theorem printBy_eq (c : CmD) : printBy itoaT c = printBy refT c := by
  by_cases h : ∀ n ∈ c.ints, 0 ≤ n
  · have : wordsBy itoaT c = wordsBy refT c := by
      unfold wordsBy
      rw [List.map_congr_left (fun n hn => itoaT_nonneg (h n hn))]
    unfold printBy
    rw [this]
  · have hp : ∀ s, ¬ parseC s = (c, 0) := by
      intro s e
      apply h
      have := parseC_nonneg s
      rw [e] at this
      exact this
    unfold printBy
    rw [if_neg (hp _), if_neg (hp _), ite_self, ite_self]

end Go.Proofs.YtelcmkccfjdmjaaGreatDoor

namespace Go.Proofs.YtelcmkccfjdmjaaGreatDoor
open Go Go.Proofs Go.RowKit Go.Shelf Go.Sort

/-- what the words of a command want of it -/
structure OkC (c : CmD) : Prop where
  li : c.ints.length ≤ 100000
  lq : c.rats.length ≤ 100000
  lg : c.ge.length ≤ 9223372036854775807
  lk : c.rank.length ≤ 100000
  bi : ∀ n ∈ c.ints, -9223372036854775808 ≤ n ∧ n ≤ 9223372036854775807
  bq : ∀ q ∈ c.rats, 0 ≤ q.1
  bw : 0 ≤ c.w ∧ c.w < 18446744073709551616
/-- what words leaves -/
def WordsRow (w : World) (l : List ByteArray) (e : Ending) (w' : World) : Prop :=
  ∃ ao cap, e = .returned (.slice ao l.length cap) ∧ Cel w' ao (l.map encS) ∧ Below w.heap.size w w' ∧ l.length ≤ cap
theorem wordsG_len (g : GD) : (wordsG g).1.length ≤ 16384 := by
  unfold wordsG
  split
  · simp
  · split
    · simp
    · show (wordsK g g.es.length).length ≤ _
      rw [wordsK_length g _ (Nat.le_refl _)]
      omega
theorem WordsRow.of {w w' : World} {l : List ByteArray} {ao : Option Addr} {n cap : Nat} (hn : n = l.length) (h : w'.ownsRow w.heap.size 9 1 (.slice ao n cap) n (l.map encS)) (hb : Below w.heap.size w w') : WordsRow w l (.returned (.slice ao n cap)) w' := by
  subst hn
  obtain ⟨ao', cap', e, hc⟩ := Cel.of_owns h
  cases e
  exact ⟨ao, cap, rfl, hc, hb, owns_capW h⟩

set_option maxRecDepth 100000 in
set_option maxHeartbeats 4000000 in
theorem cmdWords_load (c : CmD) (v : List Value) (w : World) (hc : CmV w c v) (ok : OkC c) (ht : Pow10 w) (hl : c.name = loadC) :
    Calls Tryz.prog 61 #[.agg v.toArray] w (WordsRow w (wordsBy itoaT c)) := by
  obtain ⟨ai, ci, aq, cq, ag, cg, ak, ck, rfl, -, -, h3, -⟩ := hc
  have hw : wordsBy itoaT c = c.name :: (wordsG ⟨c.gn, c.ge⟩).1 := if_pos hl
  have f0 : (c.name.toList == ([76, 79, 65, 68] : List UInt8)) = true := (cm_byt (a := c.name) (c := loadC) (l := [76, 79, 65, 68]) rfl).trans (decide_eq_true hl)
  have HG := Lib.hid (fun W h hp => GWords_any ⟨c.gn, c.ge⟩ ag cg W ok.lg h hp)
  have hgl := wordsG_len ⟨c.gn, c.ge⟩
  unfold GWordsPost at HG
  have HC := Lib.hid h3
  have HT := Lib.hid ht
  rw [hw]
  clear hl hw h3 ht ok
  generalize wordsG ⟨c.gn, c.ge⟩ = q at *
  obtain ⟨l, f⟩ := q
  simp only at HG hgl ⊢
  go_enter Tryz.func61, Tryz.ntmps61
  go_wp2_with fail
  obtain ⟨W, hW⟩ : ∃ W, W = (w.alloc (Obj.cells #[.string c.name, .slice ai c.ints.length ci, .int .u64 c.w, .slice aq c.rats.length cq, .int .i64 c.gn, .slice ag c.ge.length cg, .slice ak c.rank.length ck] 55)).alloc (Obj.cells #[.string c.name] 9) := ⟨_, rfl⟩
  have HP := Lib.hid (show PB W w.heap.size _ by rw [hW]; exact (PB.new7 _ _ _ _ _ _ _ _ _).go (Below.of_al _ _))
  have HB := Lib.hid (show Below w.heap.size w W by rw [hW]; exact (Below.of_al _ _).al _)
  have HO := Lib.hid (show W.ownsRow w.heap.size 9 1 (.slice (some ⟨w.heap.size + 1, 0, none⟩) 1 1) 1 [encS c.name] by rw [hW]; exact (by have := World.ownsRow_lit (base := w.heap.size) (e := 9) (size := 1) (w.alloc (Obj.cells #[.string c.name, .slice ai c.ints.length ci, .int .u64 c.w, .slice aq c.rats.length cq, .int .i64 c.gn, .slice ag c.ge.length cg, .slice ak c.rank.length ck] 55)) #[.string c.name] 1 (by simp) (by decide) rfl; simpa using this))
  rw [← hW]
  clear hW
  refine (HG.out _ (HC.out.go HB.out) (tabIs_go HT.out HB.out)).mono ?_
  rintro e w1 ⟨ao1, cap1, rfl, hc1, hb1⟩
  have HO1 := cm_owns_go HO.out hb1
  obtain ⟨a2, c2, w2, hr2, ho2, hb2⟩ := run_appAll (P := Tryz.prog) 26 26 w.heap.size 9 _ 16 elem_str Tryz.underlying26 (some ⟨w.heap.size + 1, 0, none⟩) 1 1 [encS c.name] HO1 ao1 l.length cap1 (l.map encS) hc1 (fun u hu => by obtain ⟨x, _, rfl⟩ := List.mem_map.1 hu; rfl) (by refine ⟨by simp, by omega, by omega, (HB.out.st hb1).size⟩)
  have HO2 := Lib.hid ho2
  have HB2 := Lib.hid ((HB.out.st hb1).trans hb2)
  have HR2 := Lib.hid hr2
  clear HO1 ho2 hb2 hb1 hc1 hr2
  go_wp2_with (at_builtin; refine Lib.wpList_append_run _ rfl _ _ _ _ rfl _ _ rfl rfl _ _ HR2.out ?_)
  go_ret
  exact WordsRow.of (by simp; omega) HO2.out HB2.out

set_option maxRecDepth 100000 in
set_option maxHeartbeats 4000000 in
theorem cmdWords_build (c : CmD) (v : List Value) (w : World) (hc : CmV w c v) (ok : OkC c) (ht : Pow10 w) (hl : c.name = buildC) (hr : 0 < c.rank.length) :
    Calls Tryz.prog 61 #[.agg v.toArray] w (WordsRow w (wordsBy itoaT c)) := by
  obtain ⟨ai, ci, aq, cq, ag, cg, ak, ck, rfl, -, -, -, h4⟩ := hc
  have hne : c.name ≠ loadC := by rw [hl]; decide
  have hw : wordsBy itoaT c = [c.name, textL c.rank] := (if_neg hne).trans (if_pos ⟨hl, hr⟩)
  have f0 : (c.name.toList == ([76, 79, 65, 68] : List UInt8)) = false := (cm_byt (a := c.name) (c := loadC) (l := [76, 79, 65, 68]) rfl).trans (decide_eq_false hne)
  have f1 : (c.name.toList == ([66, 85, 73, 76, 68] : List UInt8)) = true := (cm_byt (a := c.name) (c := buildC) (l := [66, 85, 73, 76, 68]) rfl).trans (decide_eq_true hl)
  have HG := Lib.hid (fun W h hp => rkText_any c.rank ak ck W (by have := ok.lk; omega) h hp)
  have HC := Lib.hid h4
  have HT := Lib.hid ht
  have hr2 : (0 : Int) < (c.rank.length : Int) := by omega
  rw [hw]
  clear hl hw h4 ht ok hne hr
  generalize textL c.rank = x at *
  go_enter Tryz.func61, Tryz.ntmps61
  go_upto_region 2 with (fail)
  obtain ⟨W, hW⟩ : ∃ W, W = (w.alloc (Obj.cells #[.string c.name, .slice ai c.ints.length ci, .int .u64 c.w, .slice aq c.rats.length cq, .int .i64 c.gn, .slice ag c.ge.length cg, .slice ak c.rank.length ck] 55)).alloc (Obj.cells #[.string c.name] 9) := ⟨_, rfl⟩
  have HP := Lib.hid (show PB W w.heap.size _ by rw [hW]; exact (PB.new7 _ _ _ _ _ _ _ _ _).go (Below.of_al _ _))
  have HB := Lib.hid (show Below w.heap.size w W by rw [hW]; exact (Below.of_al _ _).al _)
  have HO := Lib.hid (show W.ownsRow w.heap.size 9 1 (.slice (some ⟨w.heap.size + 1, 0, none⟩) 1 1) 1 [encS c.name] by rw [hW]; exact (by have := World.ownsRow_lit (base := w.heap.size) (e := 9) (size := 1) (w.alloc (Obj.cells #[.string c.name, .slice ai c.ints.length ci, .int .u64 c.w, .slice aq c.rats.length cq, .int .i64 c.gn, .slice ag c.ge.length cg, .slice ak c.rank.length ck] 55)) #[.string c.name] 1 (by simp) (by decide) rfl; simpa using this))
  rw [← hW]
  clear hW
  (obtain ⟨p0, -⟩ := (HP).out 0 _ rfl); (obtain ⟨p1, -⟩ := (HP).out 1 _ rfl); (obtain ⟨p2, -⟩ := (HP).out 2 _ rfl); (obtain ⟨p3, -⟩ := (HP).out 3 _ rfl); (obtain ⟨p4, -⟩ := (HP).out 4 _ rfl); (obtain ⟨p5, -⟩ := (HP).out 5 _ rfl); (obtain ⟨p6, -⟩ := (HP).out 6 _ rfl)
  go_wp2_with fail
  refine (HG.out _ (HC.out.go HB.out) (tabIs_go HT.out HB.out)).mono ?_
  rintro e w1 ⟨rfl, hb1⟩
  have HO1 := Lib.hid (cm_owns_go HO.out hb1)
  have HB1 := Lib.hid (HB.out.st hb1)
  clear hb1
  go_wp2_with (at_builtin; go_must ((with_reducible refine wpList_app w.heap.size 9 _ 1 16 elem_str Tryz.underlying26 (.slice (some ⟨w.heap.size + 1, 0, none⟩) 1 1) 1 _ ⟨w1.heap.size, 0, none⟩ 1 1 [encS x] ?_ ?_ (HO1.out.alloc _) (cm_one_at _ _ _ rfl) (cm_ones _) ⟨rfl, by decide, by omega, by omega, by have := HB1.out.size; simp; omega⟩ ?_); (· rfl); (· rfl); intro g6 cap6 w6 hown hgrow hbl hat hlt6; (have HO6 := Lib.hid hown; have HB6 := Lib.hid ((HB1.out.al _).trans hbl); clear hown hgrow hbl hat)))
  go_ret
  exact WordsRow.of rfl HO6.out HB6.out

theorem itoaZ_any (n : Int) (h0 : -9223372036854775808 ≤ n) (h1 : n ≤ 9223372036854775807) (w : World) (ht : Pow10 w) :
    Calls Tryz.prog 90 #[.int .i64 n] w fun e w' => e = .returned (.string (itoaT n)) ∧ Below w.heap.size w w' := by
  refine (Tryz.strconv_Itoa n h0 h1 w ht).mono ?_
  rintro e w' ⟨rfl, k, os, rfl⟩
  exact ⟨rfl, below_grow w os k⟩
theorem take_map_snoc {α β : Type} (f : α → β) (l : List α) {k : Nat} (h : k < l.length) : (l.take (k + 1)).map f = (l.take k).map f ++ [f l[k]] := by
  rw [List.take_succ_eq_append_getElem h, List.map_append]
  rfl
theorem owns_le {w : World} {base base' : Nat} {e : TypeId} {size n : Nat} {v : Value} {xs : List Value} (h : w.ownsRow base e size v n xs) (hb : base' ≤ base) : w.ownsRow base' e size v n xs := by
  refine ⟨h.1, h.2.imp (fun h => h) ?_⟩
  rintro ⟨g, cap, cur, hv, hbg, r⟩
  exact ⟨g, cap, cur, hv, Nat.le_trans hb hbg, r⟩
/-- the words as far as k integers, as far as k ratios -/
def wI (t : Int → ByteArray) (c : CmD) (k : Nat) : List ByteArray := c.name :: (c.ints.take k).map t
def wR (t : Int → ByteArray) (c : CmD) (k : Nat) : List ByteArray := wI t c c.ints.length ++ (c.rats.take k).map (fun q => ratioT q.1 q.2)
theorem wI_snoc (t : Int → ByteArray) (c : CmD) {k : Nat} (h : k < c.ints.length) : wI t c (k + 1) = wI t c k ++ [t c.ints[k]] := by
  unfold wI
  rw [take_map_snoc t _ h]
  rfl
theorem wR_snoc (t : Int → ByteArray) (c : CmD) {k : Nat} (h : k < c.rats.length) : wR t c (k + 1) = wR t c k ++ [ratioT c.rats[k].1 c.rats[k].2] := by
  unfold wR
  rw [take_map_snoc _ _ h, List.append_assoc]
theorem wR_zero (t : Int → ByteArray) (c : CmD) : wR t c 0 = wI t c c.ints.length := by
  unfold wR
  simp
theorem wI_len (t : Int → ByteArray) (c : CmD) {k : Nat} (h : k ≤ c.ints.length) : (wI t c k).length = 1 + k := by
  unfold wI
  simp
  omega
theorem wR_len (t : Int → ByteArray) (c : CmD) {k : Nat} (h : k ≤ c.rats.length) : (wR t c k).length = 1 + c.ints.length + k := by
  unfold wR
  rw [List.length_append, wI_len t c (Nat.le_refl _), List.length_map, List.length_take]
  omega
theorem wordsBy_rest {t : Int → ByteArray} {c : CmD} (h1 : c.name ≠ loadC) (h2 : ¬ (c.name = buildC ∧ 0 < c.rank.length)) : wordsBy t c = wR t c c.rats.length ++ (if isSW c.name then [printI c.w] else []) := by
  unfold wordsBy wR wI
  rw [if_neg h1, if_neg h2]
  simp

set_option maxRecDepth 100000 in
set_option maxHeartbeats 4000000 in
theorem cmdWords_rest (c : CmD) (v : List Value) (w : World) (hc : CmV w c v) (ok : OkC c) (ht : Pow10 w) (h1 : c.name ≠ loadC) (h2 : ¬ (c.name = buildC ∧ 0 < c.rank.length)) :
    Calls Tryz.prog 61 #[.agg v.toArray] w (WordsRow w (wordsBy itoaT c)) := by
  obtain ⟨ai, ci, aq, cq, ag, cg, ak, ck, rfl, hi, hq, -, -⟩ := hc
  have f0 : (c.name.toList == ([76, 79, 65, 68] : List UInt8)) = false := (cm_byt (a := c.name) (c := loadC) (l := [76, 79, 65, 68]) rfl).trans (decide_eq_false h1)
  rw [wordsBy_rest h1 h2]
  have HC := Lib.hid hi
  have HQ := Lib.hid hq
  have HT := Lib.hid ht
  have HOK := Lib.hid ok
  have hli := ok.li
  have hlq := ok.lq
  have HI0 := Lib.hid (show (wI itoaT c 0).map encS = [encS c.name] from rfl)
  have HIS := Lib.hid (fun k h => wI_snoc itoaT c (k := k) h)
  have HR0 := Lib.hid (wR_zero itoaT c)
  have HRS := Lib.hid (fun k h => wR_snoc itoaT c (k := k) h)
  have HRL := Lib.hid (wR_len itoaT c (k := c.rats.length) (Nat.le_refl _))
  have hsw1 : (c.name.toList == ([83, 69, 84, 87] : List UInt8)) = decide (c.name = setwC) := cm_byt (c := setwC) (l := [83, 69, 84, 87]) rfl
  have hsw2 : (c.name.toList == ([78, 69, 65, 82] : List UInt8)) = decide (c.name = nearC) := cm_byt (c := nearC) (l := [78, 69, 65, 82]) rfl
  by_cases hb : c.name = buildC
  · have hz : c.rank.length = 0 := by
      have : ¬ 0 < c.rank.length := fun e => h2 ⟨hb, e⟩
      omega
    have f1 : (c.name.toList == ([66, 85, 73, 76, 68] : List UInt8)) = true := (cm_byt (a := c.name) (c := buildC) (l := [66, 85, 73, 76, 68]) rfl).trans (decide_eq_true hb)
    have g1 : (c.name.toList == ([83, 69, 84, 87] : List UInt8)) = false := hsw1.trans (by rw [hb]; decide)
    have g2 : (c.name.toList == ([78, 69, 65, 82] : List UInt8)) = false := hsw2.trans (by rw [hb]; decide)
    have hsw : isSW c.name = false := by rw [hb]; decide
    rw [hsw, if_neg (by decide), List.append_nil]
    have hz2 : ¬ (0 : Int) < (c.rank.length : Int) := by omega
    clear hz hb hsw1 hsw2 hsw h1 h2 hi hq ht ok
    go_enter Tryz.func61, Tryz.ntmps61
    go_upto_region 2 with (fail)
    obtain ⟨W, hW⟩ : ∃ W, W = (w.alloc (Obj.cells #[.string c.name, .slice ai c.ints.length ci, .int .u64 c.w, .slice aq c.rats.length cq, .int .i64 c.gn, .slice ag c.ge.length cg, .slice ak c.rank.length ck] 55)).alloc (Obj.cells #[.string c.name] 9) := ⟨_, rfl⟩
    have HP := Lib.hid (show PB W w.heap.size _ by rw [hW]; exact (PB.new7 _ _ _ _ _ _ _ _ _).go (Below.of_al _ _))
    have HB := Lib.hid (show Below w.heap.size w W by rw [hW]; exact (Below.of_al _ _).al _)
    have HO := Lib.hid (show W.ownsRow w.heap.size 9 1 (.slice (some ⟨w.heap.size + 1, 0, none⟩) 1 1) 1 [encS c.name] by rw [hW]; exact (by have := World.ownsRow_lit (base := w.heap.size) (e := 9) (size := 1) (w.alloc (Obj.cells #[.string c.name, .slice ai c.ints.length ci, .int .u64 c.w, .slice aq c.rats.length cq, .int .i64 c.gn, .slice ag c.ge.length cg, .slice ak c.rank.length ck] 55)) #[.string c.name] 1 (by simp) (by decide) rfl; simpa using this))
    rw [← hW]
    clear hW
    (obtain ⟨p0, -⟩ := (HP).out 0 _ rfl); (obtain ⟨p1, -⟩ := (HP).out 1 _ rfl); (obtain ⟨p2, -⟩ := (HP).out 2 _ rfl); (obtain ⟨p3, -⟩ := (HP).out 3 _ rfl); (obtain ⟨p4, -⟩ := (HP).out 4 _ rfl); (obtain ⟨p5, -⟩ := (HP).out 5 _ rfl); (obtain ⟨p6, -⟩ := (HP).out 6 _ rfl)
    have HZ0 := Lib.hid (show w.heap.size + 1 ≤ W.heap.size from (World.block_lt_of_cell? _ _ p0))
    have HOB := Lib.hid (show W.ownsRow (w.heap.size + 1) 9 1 (.slice (some ⟨w.heap.size + 1, 0, none⟩) (1 + 0) 1) (1 + 0) ((wI itoaT c 0).map encS) by
      rw [HI0.out]
      refine ⟨HO.out.1, HO.out.2.imp (fun h => h) ?_⟩
      rintro ⟨g, cap, cur, hv, hbg, r⟩
      refine ⟨g, cap, cur, hv, ?_, r⟩
      cases hv
      exact Nat.le_refl _)
    go_wp2
    go_loopg [3, 41] c.ints.length (fun g v3 v41 wr => ∃ (k a cp : Nat), k ≤ c.ints.length ∧ c.ints.length - k ≤ g ∧ v41 = .int .i64 k ∧ v3 = .slice (some ⟨a, 0, none⟩) (1 + k) cp ∧ Aside (wr.ownsRow (w.heap.size + 1) 9 1 (.slice (some ⟨a, 0, none⟩) (1 + k) cp) (1 + k) ((wI itoaT c k).map encS)) ∧ Aside (Below (w.heap.size + 1) W wr))
    case atStart => exact ⟨0, w.heap.size + 1, 1, Nat.zero_le _, by omega, rfl, rfl, HOB.out, Below.refl _ _⟩
    case round =>
      clear HO HOB
      obtain ⟨k, a, cp, hk, hg, rfl, rfl, HO, HBR⟩ := hrel
      have hk0 : (0 : Int) ≤ (k : Int) := by omega
      by_cases hlt : k < c.ints.length
      · have hlt3 : (k : Int) < (c.ints.length : Int) := by omega
        have HBW := Lib.hid (HB.out.trans (HBR.out.mono (Nat.le_succ _)))
        obtain ⟨bi, oi, hao, hcell⟩ := (HC.out.go HBW.out).at hlt
        have HS := Lib.hid (HIS.out k hlt)
        have HF := Lib.hid (itoaZ_any c.ints[k] (HOK.out.bi _ (List.getElem_mem hlt)).1 (HOK.out.bi _ (List.getElem_mem hlt)).2 wr (tabIs_go HT.out HBW.out))
        subst hao
        generalize c.ints[k] = x at *
        generalize itoaT x = tx at *
        have hs0 := HBR.out.size
        go_wp2_with (first
          | (go_at_call 90; refine HF.out.mono ?_; rintro e w1 ⟨rfl, hb1⟩; (have HO1 := Lib.hid (cm_owns_go HO.out hb1); have hs1 := hb1.size; have HB1 := Lib.hid (HBR.out.trans (hb1.mono (Nat.le_trans HZ0.out hs0))); clear hb1))
          | (at_builtin; go_must ((with_reducible refine wpList_app (w.heap.size + 1) 9 _ 1 16 elem_str Tryz.underlying26 (.slice (some ⟨a, 0, none⟩) (1 + k) cp) (1 + k) _ ⟨w1.heap.size, 0, none⟩ 1 1 [encS tx] ?_ ?_ (HO1.out.alloc _) (cm_one_at _ _ _ rfl) (cm_ones _) ⟨rfl, by decide, by omega, by omega, by have := HZ0.out; simp; omega⟩ ?_); (· rfl); (· rfl); intro g6 cap6 w6 hown hgrow hbl hat hlt6; (have HO6 := Lib.hid hown; have HB6 := Lib.hid ((HB1.out.trans ((Below.of_al w1 _).mono (by have := HZ0.out; omega))).trans hbl); clear hown hgrow hbl hat))))
        go_roundg (c.ints.length - (k + 1))
        case measure => omega
        case rel => exact ⟨k + 1, g6, cap6, by omega, by omega, by go_num, by rw [Nat.add_assoc], by rw [HS.out, List.map_append, ← Nat.add_assoc]; exact HO6.out, HB6.out⟩
      · have ek : k = c.ints.length := by omega
        subst ek
        have HP2 := Lib.hid (HP.out.eq (HBR.out.block w.heap.size (Nat.lt_succ_self _)))
        clear p0 p1 p2 p3 p4 p5 p6
        (obtain ⟨p0, -⟩ := (HP2).out 0 _ rfl); (obtain ⟨p1, -⟩ := (HP2).out 1 _ rfl); (obtain ⟨p2, -⟩ := (HP2).out 2 _ rfl); (obtain ⟨p3, -⟩ := (HP2).out 3 _ rfl); (obtain ⟨p4, -⟩ := (HP2).out 4 _ rfl); (obtain ⟨p5, -⟩ := (HP2).out 5 _ rfl); (obtain ⟨p6, -⟩ := (HP2).out 6 _ rfl)
        have HO2 := Lib.hid (show wr.ownsRow (w.heap.size + 1) 9 1 (.slice (some ⟨a, 0, none⟩) (1 + c.ints.length + 0) cp) (1 + c.ints.length + 0) ((wR itoaT c 0).map encS) by rw [HR0.out]; exact HO.out)
        have HB2 := Lib.hid HBR.out
        clear HO HBR HP2 HIS HI0 HR0
        go_wp2
        go_loopg [3, 54] c.rats.length (fun g v3 v54 wr => ∃ (k a cp : Nat), k ≤ c.rats.length ∧ c.rats.length - k ≤ g ∧ v54 = .int .i64 k ∧ v3 = .slice (some ⟨a, 0, none⟩) (1 + c.ints.length + k) cp ∧ Aside (wr.ownsRow (w.heap.size + 1) 9 1 (.slice (some ⟨a, 0, none⟩) (1 + c.ints.length + k) cp) (1 + c.ints.length + k) ((wR itoaT c k).map encS)) ∧ Aside (Below (w.heap.size + 1) W wr))
        case atStart => exact ⟨0, a, cp, Nat.zero_le _, by omega, rfl, rfl, HO2.out, HB2.out⟩
        case round =>
          clear HO2 HB2
          obtain ⟨k, a, cp, hk, hg, rfl, rfl, HO, HBR⟩ := hrel
          have hk0 : (0 : Int) ≤ (k : Int) := by omega
          have HBW := Lib.hid (HB.out.trans (HBR.out.mono (Nat.le_succ _)))
          by_cases hlt : k < c.rats.length
          · have hlt3 : (k : Int) < (c.rats.length : Int) := by omega
            obtain ⟨bi, oi, hao, hx1, hx2⟩ := flatP_at (HQ.out.go HBW.out) hlt
            have HS := Lib.hid (HRS.out k hlt)
            have HF := Lib.hid (fun W h => RPrint_any c.rats[k].1 c.rats[k].2 W (HOK.out.bq _ (List.getElem_mem hlt)) (tabIs_go HT.out h))
            subst hao
            generalize c.rats[k] = q at *
            obtain ⟨qn, qd⟩ := q
            simp only [ratV] at hx1 hx2 HS HF
            generalize ratioT qn qd = tx at *
            have hs0 := HBR.out.size
            go_wp2_with (first
              | (go_at_call 101; refine (HF.out _ (HBW.out.al _)).mono ?_; rintro e w1 ⟨rfl, hb1⟩; (have HO1 := Lib.hid (cm_owns_go (HO.out.alloc _) hb1); have hs1 := hb1.size; have HB1 := Lib.hid ((HBR.out.trans ((Below.of_al wr (Obj.cells #[.int .u64 qn, .int .u64 qd] 98)).mono (Nat.le_trans HZ0.out hs0))).trans (hb1.mono (by have := HZ0.out; simp; omega))); clear hb1); have hs2 : wr.heap.size + 1 ≤ w1.heap.size := by simpa using hs1)
              | (at_builtin; go_must ((with_reducible refine wpList_app (w.heap.size + 1) 9 _ 1 16 elem_str Tryz.underlying26 (.slice (some ⟨a, 0, none⟩) (1 + c.ints.length + k) cp) (1 + c.ints.length + k) _ ⟨w1.heap.size, 0, none⟩ 1 1 [encS tx] ?_ ?_ (HO1.out.alloc _) (cm_one_at _ _ _ rfl) (cm_ones _) ⟨rfl, by decide, by omega, by omega, by have := HZ0.out; simp; omega⟩ ?_); (· rfl); (· rfl); intro g6 cap6 w6 hown hgrow hbl hat hlt6; (have HO6 := Lib.hid hown; have HB6 := Lib.hid ((HB1.out.trans ((Below.of_al w1 _).mono (by have := HZ0.out; omega))).trans hbl); clear hown hgrow hbl hat))))
            go_roundg (c.rats.length - (k + 1))
            case measure => omega
            case rel => exact ⟨k + 1, g6, cap6, by omega, by omega, by go_num, by rw [Nat.add_assoc], by rw [HS.out, List.map_append, ← Nat.add_assoc]; exact HO6.out, HB6.out⟩
          · have ek : k = c.rats.length := by omega
            subst ek
            have HP2 := Lib.hid (HP.out.eq (HBR.out.block w.heap.size (Nat.lt_succ_self _)))
            clear p0 p1 p2 p3 p4 p5 p6
            (obtain ⟨p0, -⟩ := (HP2).out 0 _ rfl); (obtain ⟨p1, -⟩ := (HP2).out 1 _ rfl); (obtain ⟨p2, -⟩ := (HP2).out 2 _ rfl); (obtain ⟨p3, -⟩ := (HP2).out 3 _ rfl); (obtain ⟨p4, -⟩ := (HP2).out 4 _ rfl); (obtain ⟨p5, -⟩ := (HP2).out 5 _ rfl); (obtain ⟨p6, -⟩ := (HP2).out 6 _ rfl)
            go_wp2
            go_ret
            exact WordsRow.of (by rw [HRL.out]) (owns_le HO.out (Nat.le_succ _)) HBW.out
  · have f1 : (c.name.toList == ([66, 85, 73, 76, 68] : List UInt8)) = false := (cm_byt (a := c.name) (c := buildC) (l := [66, 85, 73, 76, 68]) rfl).trans (decide_eq_false hb)
    have HPR := Lib.hid (fun W h => Print_any c.w ok.bw.1 ok.bw.2 W h)
    cases hs1 : decide (c.name = setwC) with
    | true =>
      have hsw : isSW c.name = true := by unfold isSW; rw [hs1]; rfl
      rw [hs1] at hsw1
      rw [hsw, if_pos rfl]
      clear hb hs1 hsw2 hsw h1 h2 hi hq ht ok
      generalize printI c.w = pw at *
      go_enter Tryz.func61, Tryz.ntmps61
      go_upto_region 2 with (fail)
      obtain ⟨W, hW⟩ : ∃ W, W = (w.alloc (Obj.cells #[.string c.name, .slice ai c.ints.length ci, .int .u64 c.w, .slice aq c.rats.length cq, .int .i64 c.gn, .slice ag c.ge.length cg, .slice ak c.rank.length ck] 55)).alloc (Obj.cells #[.string c.name] 9) := ⟨_, rfl⟩
      have HP := Lib.hid (show PB W w.heap.size _ by rw [hW]; exact (PB.new7 _ _ _ _ _ _ _ _ _).go (Below.of_al _ _))
      have HB := Lib.hid (show Below w.heap.size w W by rw [hW]; exact (Below.of_al _ _).al _)
      have HO := Lib.hid (show W.ownsRow w.heap.size 9 1 (.slice (some ⟨w.heap.size + 1, 0, none⟩) 1 1) 1 [encS c.name] by rw [hW]; exact (by have := World.ownsRow_lit (base := w.heap.size) (e := 9) (size := 1) (w.alloc (Obj.cells #[.string c.name, .slice ai c.ints.length ci, .int .u64 c.w, .slice aq c.rats.length cq, .int .i64 c.gn, .slice ag c.ge.length cg, .slice ak c.rank.length ck] 55)) #[.string c.name] 1 (by simp) (by decide) rfl; simpa using this))
      rw [← hW]
      clear hW
      (obtain ⟨p0, -⟩ := (HP).out 0 _ rfl); (obtain ⟨p1, -⟩ := (HP).out 1 _ rfl); (obtain ⟨p2, -⟩ := (HP).out 2 _ rfl); (obtain ⟨p3, -⟩ := (HP).out 3 _ rfl); (obtain ⟨p4, -⟩ := (HP).out 4 _ rfl); (obtain ⟨p5, -⟩ := (HP).out 5 _ rfl); (obtain ⟨p6, -⟩ := (HP).out 6 _ rfl)
      have HZ0 := Lib.hid (show w.heap.size + 1 ≤ W.heap.size from (World.block_lt_of_cell? _ _ p0))
      have HOB := Lib.hid (show W.ownsRow (w.heap.size + 1) 9 1 (.slice (some ⟨w.heap.size + 1, 0, none⟩) (1 + 0) 1) (1 + 0) ((wI itoaT c 0).map encS) by
        rw [HI0.out]
        refine ⟨HO.out.1, HO.out.2.imp (fun h => h) ?_⟩
        rintro ⟨g, cap, cur, hv, hbg, r⟩
        refine ⟨g, cap, cur, hv, ?_, r⟩
        cases hv
        exact Nat.le_refl _)
      go_wp2
      go_loopg [3, 41] c.ints.length (fun g v3 v41 wr => ∃ (k a cp : Nat), k ≤ c.ints.length ∧ c.ints.length - k ≤ g ∧ v41 = .int .i64 k ∧ v3 = .slice (some ⟨a, 0, none⟩) (1 + k) cp ∧ Aside (wr.ownsRow (w.heap.size + 1) 9 1 (.slice (some ⟨a, 0, none⟩) (1 + k) cp) (1 + k) ((wI itoaT c k).map encS)) ∧ Aside (Below (w.heap.size + 1) W wr))
      case atStart => exact ⟨0, w.heap.size + 1, 1, Nat.zero_le _, by omega, rfl, rfl, HOB.out, Below.refl _ _⟩
      case round =>
        clear HO HOB
        obtain ⟨k, a, cp, hk, hg, rfl, rfl, HO, HBR⟩ := hrel
        have hk0 : (0 : Int) ≤ (k : Int) := by omega
        by_cases hlt : k < c.ints.length
        · have hlt3 : (k : Int) < (c.ints.length : Int) := by omega
          have HBW := Lib.hid (HB.out.trans (HBR.out.mono (Nat.le_succ _)))
          obtain ⟨bi, oi, hao, hcell⟩ := (HC.out.go HBW.out).at hlt
          have HS := Lib.hid (HIS.out k hlt)
          have HF := Lib.hid (itoaZ_any c.ints[k] (HOK.out.bi _ (List.getElem_mem hlt)).1 (HOK.out.bi _ (List.getElem_mem hlt)).2 wr (tabIs_go HT.out HBW.out))
          subst hao
          generalize c.ints[k] = x at *
          generalize itoaT x = tx at *
          have hs0 := HBR.out.size
          go_wp2_with (first
            | (go_at_call 90; refine HF.out.mono ?_; rintro e w1 ⟨rfl, hb1⟩; (have HO1 := Lib.hid (cm_owns_go HO.out hb1); have hs1 := hb1.size; have HB1 := Lib.hid (HBR.out.trans (hb1.mono (Nat.le_trans HZ0.out hs0))); clear hb1))
            | (at_builtin; go_must ((with_reducible refine wpList_app (w.heap.size + 1) 9 _ 1 16 elem_str Tryz.underlying26 (.slice (some ⟨a, 0, none⟩) (1 + k) cp) (1 + k) _ ⟨w1.heap.size, 0, none⟩ 1 1 [encS tx] ?_ ?_ (HO1.out.alloc _) (cm_one_at _ _ _ rfl) (cm_ones _) ⟨rfl, by decide, by omega, by omega, by have := HZ0.out; simp; omega⟩ ?_); (· rfl); (· rfl); intro g6 cap6 w6 hown hgrow hbl hat hlt6; (have HO6 := Lib.hid hown; have HB6 := Lib.hid ((HB1.out.trans ((Below.of_al w1 _).mono (by have := HZ0.out; omega))).trans hbl); clear hown hgrow hbl hat))))
          go_roundg (c.ints.length - (k + 1))
          case measure => omega
          case rel => exact ⟨k + 1, g6, cap6, by omega, by omega, by go_num, by rw [Nat.add_assoc], by rw [HS.out, List.map_append, ← Nat.add_assoc]; exact HO6.out, HB6.out⟩
        · have ek : k = c.ints.length := by omega
          subst ek
          have HP2 := Lib.hid (HP.out.eq (HBR.out.block w.heap.size (Nat.lt_succ_self _)))
          clear p0 p1 p2 p3 p4 p5 p6
          (obtain ⟨p0, -⟩ := (HP2).out 0 _ rfl); (obtain ⟨p1, -⟩ := (HP2).out 1 _ rfl); (obtain ⟨p2, -⟩ := (HP2).out 2 _ rfl); (obtain ⟨p3, -⟩ := (HP2).out 3 _ rfl); (obtain ⟨p4, -⟩ := (HP2).out 4 _ rfl); (obtain ⟨p5, -⟩ := (HP2).out 5 _ rfl); (obtain ⟨p6, -⟩ := (HP2).out 6 _ rfl)
          have HO2 := Lib.hid (show wr.ownsRow (w.heap.size + 1) 9 1 (.slice (some ⟨a, 0, none⟩) (1 + c.ints.length + 0) cp) (1 + c.ints.length + 0) ((wR itoaT c 0).map encS) by rw [HR0.out]; exact HO.out)
          have HB2 := Lib.hid HBR.out
          clear HO HBR HP2 HIS HI0 HR0
          go_wp2
          go_loopg [3, 54] c.rats.length (fun g v3 v54 wr => ∃ (k a cp : Nat), k ≤ c.rats.length ∧ c.rats.length - k ≤ g ∧ v54 = .int .i64 k ∧ v3 = .slice (some ⟨a, 0, none⟩) (1 + c.ints.length + k) cp ∧ Aside (wr.ownsRow (w.heap.size + 1) 9 1 (.slice (some ⟨a, 0, none⟩) (1 + c.ints.length + k) cp) (1 + c.ints.length + k) ((wR itoaT c k).map encS)) ∧ Aside (Below (w.heap.size + 1) W wr))
          case atStart => exact ⟨0, a, cp, Nat.zero_le _, by omega, rfl, rfl, HO2.out, HB2.out⟩
          case round =>
            clear HO2 HB2
            obtain ⟨k, a, cp, hk, hg, rfl, rfl, HO, HBR⟩ := hrel
            have hk0 : (0 : Int) ≤ (k : Int) := by omega
            have HBW := Lib.hid (HB.out.trans (HBR.out.mono (Nat.le_succ _)))
            by_cases hlt : k < c.rats.length
            · have hlt3 : (k : Int) < (c.rats.length : Int) := by omega
              obtain ⟨bi, oi, hao, hx1, hx2⟩ := flatP_at (HQ.out.go HBW.out) hlt
              have HS := Lib.hid (HRS.out k hlt)
              have HF := Lib.hid (fun W h => RPrint_any c.rats[k].1 c.rats[k].2 W (HOK.out.bq _ (List.getElem_mem hlt)) (tabIs_go HT.out h))
              subst hao
              generalize c.rats[k] = q at *
              obtain ⟨qn, qd⟩ := q
              simp only [ratV] at hx1 hx2 HS HF
              generalize ratioT qn qd = tx at *
              have hs0 := HBR.out.size
              go_wp2_with (first
                | (go_at_call 101; refine (HF.out _ (HBW.out.al _)).mono ?_; rintro e w1 ⟨rfl, hb1⟩; (have HO1 := Lib.hid (cm_owns_go (HO.out.alloc _) hb1); have hs1 := hb1.size; have HB1 := Lib.hid ((HBR.out.trans ((Below.of_al wr (Obj.cells #[.int .u64 qn, .int .u64 qd] 98)).mono (Nat.le_trans HZ0.out hs0))).trans (hb1.mono (by have := HZ0.out; simp; omega))); clear hb1); have hs2 : wr.heap.size + 1 ≤ w1.heap.size := by simpa using hs1)
                | (at_builtin; go_must ((with_reducible refine wpList_app (w.heap.size + 1) 9 _ 1 16 elem_str Tryz.underlying26 (.slice (some ⟨a, 0, none⟩) (1 + c.ints.length + k) cp) (1 + c.ints.length + k) _ ⟨w1.heap.size, 0, none⟩ 1 1 [encS tx] ?_ ?_ (HO1.out.alloc _) (cm_one_at _ _ _ rfl) (cm_ones _) ⟨rfl, by decide, by omega, by omega, by have := HZ0.out; simp; omega⟩ ?_); (· rfl); (· rfl); intro g6 cap6 w6 hown hgrow hbl hat hlt6; (have HO6 := Lib.hid hown; have HB6 := Lib.hid ((HB1.out.trans ((Below.of_al w1 _).mono (by have := HZ0.out; omega))).trans hbl); clear hown hgrow hbl hat))))
              go_roundg (c.rats.length - (k + 1))
              case measure => omega
              case rel => exact ⟨k + 1, g6, cap6, by omega, by omega, by go_num, by rw [Nat.add_assoc], by rw [HS.out, List.map_append, ← Nat.add_assoc]; exact HO6.out, HB6.out⟩
            · have ek : k = c.rats.length := by omega
              subst ek
              have HP2 := Lib.hid (HP.out.eq (HBR.out.block w.heap.size (Nat.lt_succ_self _)))
              clear p0 p1 p2 p3 p4 p5 p6
              (obtain ⟨p0, -⟩ := (HP2).out 0 _ rfl); (obtain ⟨p1, -⟩ := (HP2).out 1 _ rfl); (obtain ⟨p2, -⟩ := (HP2).out 2 _ rfl); (obtain ⟨p3, -⟩ := (HP2).out 3 _ rfl); (obtain ⟨p4, -⟩ := (HP2).out 4 _ rfl); (obtain ⟨p5, -⟩ := (HP2).out 5 _ rfl); (obtain ⟨p6, -⟩ := (HP2).out 6 _ rfl)
              have hs0 := HBR.out.size
              go_wp2_with (first
                | (go_at_call 42; refine (HPR.out _ (tabIs_go HT.out HBW.out)).mono ?_; rintro e w1 ⟨rfl, hb1⟩; (have HO1 := Lib.hid (cm_owns_go HO.out hb1); have hs1 := hb1.size; have HB1 := Lib.hid (HBR.out.trans (hb1.mono (Nat.le_trans HZ0.out hs0))); clear hb1))
                | (at_builtin; go_must ((with_reducible refine wpList_app (w.heap.size + 1) 9 _ 1 16 elem_str Tryz.underlying26 (.slice (some ⟨a, 0, none⟩) (1 + c.ints.length + c.rats.length) cp) (1 + c.ints.length + c.rats.length) _ ⟨w1.heap.size, 0, none⟩ 1 1 [encS pw] ?_ ?_ (HO1.out.alloc _) (cm_one_at _ _ _ rfl) (cm_ones _) ⟨rfl, by decide, by omega, by omega, by have := HZ0.out; simp; omega⟩ ?_); (· rfl); (· rfl); intro g6 cap6 w6 hown hgrow hbl hat hlt6; (have HO6 := Lib.hid hown; have HB6 := Lib.hid ((HB1.out.trans ((Below.of_al w1 _).mono (by have := HZ0.out; omega))).trans hbl); clear hown hgrow hbl hat))))
              go_ret
              exact WordsRow.of (by rw [List.length_append, HRL.out]; rfl) (by rw [List.map_append]; exact owns_le HO6.out (Nat.le_succ _)) (HB.out.trans (HB6.out.mono (Nat.le_succ _)))
    | false =>
      rw [hs1] at hsw1
      cases hs2 : decide (c.name = nearC) with
      | true =>
        have hsw : isSW c.name = true := by unfold isSW; rw [hs1, hs2]; rfl
        rw [hs2] at hsw2
        rw [hsw, if_pos rfl]
        clear hb hs1 hs2 hsw h1 h2 hi hq ht ok
        generalize printI c.w = pw at *
        go_enter Tryz.func61, Tryz.ntmps61
        go_upto_region 2 with (fail)
        obtain ⟨W, hW⟩ : ∃ W, W = (w.alloc (Obj.cells #[.string c.name, .slice ai c.ints.length ci, .int .u64 c.w, .slice aq c.rats.length cq, .int .i64 c.gn, .slice ag c.ge.length cg, .slice ak c.rank.length ck] 55)).alloc (Obj.cells #[.string c.name] 9) := ⟨_, rfl⟩
        have HP := Lib.hid (show PB W w.heap.size _ by rw [hW]; exact (PB.new7 _ _ _ _ _ _ _ _ _).go (Below.of_al _ _))
        have HB := Lib.hid (show Below w.heap.size w W by rw [hW]; exact (Below.of_al _ _).al _)
        have HO := Lib.hid (show W.ownsRow w.heap.size 9 1 (.slice (some ⟨w.heap.size + 1, 0, none⟩) 1 1) 1 [encS c.name] by rw [hW]; exact (by have := World.ownsRow_lit (base := w.heap.size) (e := 9) (size := 1) (w.alloc (Obj.cells #[.string c.name, .slice ai c.ints.length ci, .int .u64 c.w, .slice aq c.rats.length cq, .int .i64 c.gn, .slice ag c.ge.length cg, .slice ak c.rank.length ck] 55)) #[.string c.name] 1 (by simp) (by decide) rfl; simpa using this))
        rw [← hW]
        clear hW
        (obtain ⟨p0, -⟩ := (HP).out 0 _ rfl); (obtain ⟨p1, -⟩ := (HP).out 1 _ rfl); (obtain ⟨p2, -⟩ := (HP).out 2 _ rfl); (obtain ⟨p3, -⟩ := (HP).out 3 _ rfl); (obtain ⟨p4, -⟩ := (HP).out 4 _ rfl); (obtain ⟨p5, -⟩ := (HP).out 5 _ rfl); (obtain ⟨p6, -⟩ := (HP).out 6 _ rfl)
        have HZ0 := Lib.hid (show w.heap.size + 1 ≤ W.heap.size from (World.block_lt_of_cell? _ _ p0))
        have HOB := Lib.hid (show W.ownsRow (w.heap.size + 1) 9 1 (.slice (some ⟨w.heap.size + 1, 0, none⟩) (1 + 0) 1) (1 + 0) ((wI itoaT c 0).map encS) by
          rw [HI0.out]
          refine ⟨HO.out.1, HO.out.2.imp (fun h => h) ?_⟩
          rintro ⟨g, cap, cur, hv, hbg, r⟩
          refine ⟨g, cap, cur, hv, ?_, r⟩
          cases hv
          exact Nat.le_refl _)
        go_wp2
        go_loopg [3, 41] c.ints.length (fun g v3 v41 wr => ∃ (k a cp : Nat), k ≤ c.ints.length ∧ c.ints.length - k ≤ g ∧ v41 = .int .i64 k ∧ v3 = .slice (some ⟨a, 0, none⟩) (1 + k) cp ∧ Aside (wr.ownsRow (w.heap.size + 1) 9 1 (.slice (some ⟨a, 0, none⟩) (1 + k) cp) (1 + k) ((wI itoaT c k).map encS)) ∧ Aside (Below (w.heap.size + 1) W wr))
        case atStart => exact ⟨0, w.heap.size + 1, 1, Nat.zero_le _, by omega, rfl, rfl, HOB.out, Below.refl _ _⟩
        case round =>
          clear HO HOB
          obtain ⟨k, a, cp, hk, hg, rfl, rfl, HO, HBR⟩ := hrel
          have hk0 : (0 : Int) ≤ (k : Int) := by omega
          by_cases hlt : k < c.ints.length
          · have hlt3 : (k : Int) < (c.ints.length : Int) := by omega
            have HBW := Lib.hid (HB.out.trans (HBR.out.mono (Nat.le_succ _)))
            obtain ⟨bi, oi, hao, hcell⟩ := (HC.out.go HBW.out).at hlt
            have HS := Lib.hid (HIS.out k hlt)
            have HF := Lib.hid (itoaZ_any c.ints[k] (HOK.out.bi _ (List.getElem_mem hlt)).1 (HOK.out.bi _ (List.getElem_mem hlt)).2 wr (tabIs_go HT.out HBW.out))
            subst hao
            generalize c.ints[k] = x at *
            generalize itoaT x = tx at *
            have hs0 := HBR.out.size
            go_wp2_with (first
              | (go_at_call 90; refine HF.out.mono ?_; rintro e w1 ⟨rfl, hb1⟩; (have HO1 := Lib.hid (cm_owns_go HO.out hb1); have hs1 := hb1.size; have HB1 := Lib.hid (HBR.out.trans (hb1.mono (Nat.le_trans HZ0.out hs0))); clear hb1))
              | (at_builtin; go_must ((with_reducible refine wpList_app (w.heap.size + 1) 9 _ 1 16 elem_str Tryz.underlying26 (.slice (some ⟨a, 0, none⟩) (1 + k) cp) (1 + k) _ ⟨w1.heap.size, 0, none⟩ 1 1 [encS tx] ?_ ?_ (HO1.out.alloc _) (cm_one_at _ _ _ rfl) (cm_ones _) ⟨rfl, by decide, by omega, by omega, by have := HZ0.out; simp; omega⟩ ?_); (· rfl); (· rfl); intro g6 cap6 w6 hown hgrow hbl hat hlt6; (have HO6 := Lib.hid hown; have HB6 := Lib.hid ((HB1.out.trans ((Below.of_al w1 _).mono (by have := HZ0.out; omega))).trans hbl); clear hown hgrow hbl hat))))
            go_roundg (c.ints.length - (k + 1))
            case measure => omega
            case rel => exact ⟨k + 1, g6, cap6, by omega, by omega, by go_num, by rw [Nat.add_assoc], by rw [HS.out, List.map_append, ← Nat.add_assoc]; exact HO6.out, HB6.out⟩
          · have ek : k = c.ints.length := by omega
            subst ek
            have HP2 := Lib.hid (HP.out.eq (HBR.out.block w.heap.size (Nat.lt_succ_self _)))
            clear p0 p1 p2 p3 p4 p5 p6
            (obtain ⟨p0, -⟩ := (HP2).out 0 _ rfl); (obtain ⟨p1, -⟩ := (HP2).out 1 _ rfl); (obtain ⟨p2, -⟩ := (HP2).out 2 _ rfl); (obtain ⟨p3, -⟩ := (HP2).out 3 _ rfl); (obtain ⟨p4, -⟩ := (HP2).out 4 _ rfl); (obtain ⟨p5, -⟩ := (HP2).out 5 _ rfl); (obtain ⟨p6, -⟩ := (HP2).out 6 _ rfl)
            have HO2 := Lib.hid (show wr.ownsRow (w.heap.size + 1) 9 1 (.slice (some ⟨a, 0, none⟩) (1 + c.ints.length + 0) cp) (1 + c.ints.length + 0) ((wR itoaT c 0).map encS) by rw [HR0.out]; exact HO.out)
            have HB2 := Lib.hid HBR.out
            clear HO HBR HP2 HIS HI0 HR0
            go_wp2
            go_loopg [3, 54] c.rats.length (fun g v3 v54 wr => ∃ (k a cp : Nat), k ≤ c.rats.length ∧ c.rats.length - k ≤ g ∧ v54 = .int .i64 k ∧ v3 = .slice (some ⟨a, 0, none⟩) (1 + c.ints.length + k) cp ∧ Aside (wr.ownsRow (w.heap.size + 1) 9 1 (.slice (some ⟨a, 0, none⟩) (1 + c.ints.length + k) cp) (1 + c.ints.length + k) ((wR itoaT c k).map encS)) ∧ Aside (Below (w.heap.size + 1) W wr))
            case atStart => exact ⟨0, a, cp, Nat.zero_le _, by omega, rfl, rfl, HO2.out, HB2.out⟩
            case round =>
              clear HO2 HB2
              obtain ⟨k, a, cp, hk, hg, rfl, rfl, HO, HBR⟩ := hrel
              have hk0 : (0 : Int) ≤ (k : Int) := by omega
              have HBW := Lib.hid (HB.out.trans (HBR.out.mono (Nat.le_succ _)))
              by_cases hlt : k < c.rats.length
              · have hlt3 : (k : Int) < (c.rats.length : Int) := by omega
                obtain ⟨bi, oi, hao, hx1, hx2⟩ := flatP_at (HQ.out.go HBW.out) hlt
                have HS := Lib.hid (HRS.out k hlt)
                have HF := Lib.hid (fun W h => RPrint_any c.rats[k].1 c.rats[k].2 W (HOK.out.bq _ (List.getElem_mem hlt)) (tabIs_go HT.out h))
                subst hao
                generalize c.rats[k] = q at *
                obtain ⟨qn, qd⟩ := q
                simp only [ratV] at hx1 hx2 HS HF
                generalize ratioT qn qd = tx at *
                have hs0 := HBR.out.size
                go_wp2_with (first
                  | (go_at_call 101; refine (HF.out _ (HBW.out.al _)).mono ?_; rintro e w1 ⟨rfl, hb1⟩; (have HO1 := Lib.hid (cm_owns_go (HO.out.alloc _) hb1); have hs1 := hb1.size; have HB1 := Lib.hid ((HBR.out.trans ((Below.of_al wr (Obj.cells #[.int .u64 qn, .int .u64 qd] 98)).mono (Nat.le_trans HZ0.out hs0))).trans (hb1.mono (by have := HZ0.out; simp; omega))); clear hb1); have hs2 : wr.heap.size + 1 ≤ w1.heap.size := by simpa using hs1)
                  | (at_builtin; go_must ((with_reducible refine wpList_app (w.heap.size + 1) 9 _ 1 16 elem_str Tryz.underlying26 (.slice (some ⟨a, 0, none⟩) (1 + c.ints.length + k) cp) (1 + c.ints.length + k) _ ⟨w1.heap.size, 0, none⟩ 1 1 [encS tx] ?_ ?_ (HO1.out.alloc _) (cm_one_at _ _ _ rfl) (cm_ones _) ⟨rfl, by decide, by omega, by omega, by have := HZ0.out; simp; omega⟩ ?_); (· rfl); (· rfl); intro g6 cap6 w6 hown hgrow hbl hat hlt6; (have HO6 := Lib.hid hown; have HB6 := Lib.hid ((HB1.out.trans ((Below.of_al w1 _).mono (by have := HZ0.out; omega))).trans hbl); clear hown hgrow hbl hat))))
                go_roundg (c.rats.length - (k + 1))
                case measure => omega
                case rel => exact ⟨k + 1, g6, cap6, by omega, by omega, by go_num, by rw [Nat.add_assoc], by rw [HS.out, List.map_append, ← Nat.add_assoc]; exact HO6.out, HB6.out⟩
              · have ek : k = c.rats.length := by omega
                subst ek
                have HP2 := Lib.hid (HP.out.eq (HBR.out.block w.heap.size (Nat.lt_succ_self _)))
                clear p0 p1 p2 p3 p4 p5 p6
                (obtain ⟨p0, -⟩ := (HP2).out 0 _ rfl); (obtain ⟨p1, -⟩ := (HP2).out 1 _ rfl); (obtain ⟨p2, -⟩ := (HP2).out 2 _ rfl); (obtain ⟨p3, -⟩ := (HP2).out 3 _ rfl); (obtain ⟨p4, -⟩ := (HP2).out 4 _ rfl); (obtain ⟨p5, -⟩ := (HP2).out 5 _ rfl); (obtain ⟨p6, -⟩ := (HP2).out 6 _ rfl)
                have hs0 := HBR.out.size
                go_wp2_with (first
                  | (go_at_call 42; refine (HPR.out _ (tabIs_go HT.out HBW.out)).mono ?_; rintro e w1 ⟨rfl, hb1⟩; (have HO1 := Lib.hid (cm_owns_go HO.out hb1); have hs1 := hb1.size; have HB1 := Lib.hid (HBR.out.trans (hb1.mono (Nat.le_trans HZ0.out hs0))); clear hb1))
                  | (at_builtin; go_must ((with_reducible refine wpList_app (w.heap.size + 1) 9 _ 1 16 elem_str Tryz.underlying26 (.slice (some ⟨a, 0, none⟩) (1 + c.ints.length + c.rats.length) cp) (1 + c.ints.length + c.rats.length) _ ⟨w1.heap.size, 0, none⟩ 1 1 [encS pw] ?_ ?_ (HO1.out.alloc _) (cm_one_at _ _ _ rfl) (cm_ones _) ⟨rfl, by decide, by omega, by omega, by have := HZ0.out; simp; omega⟩ ?_); (· rfl); (· rfl); intro g6 cap6 w6 hown hgrow hbl hat hlt6; (have HO6 := Lib.hid hown; have HB6 := Lib.hid ((HB1.out.trans ((Below.of_al w1 _).mono (by have := HZ0.out; omega))).trans hbl); clear hown hgrow hbl hat))))
                go_ret
                exact WordsRow.of (by rw [List.length_append, HRL.out]; rfl) (by rw [List.map_append]; exact owns_le HO6.out (Nat.le_succ _)) (HB.out.trans (HB6.out.mono (Nat.le_succ _)))
      | false =>
        have hsw : isSW c.name = false := by unfold isSW; rw [hs1, hs2]; rfl
        rw [hs2] at hsw2
        rw [hsw, if_neg (by decide), List.append_nil]
        clear hb hs1 hs2 hsw h1 h2 hi hq ht ok HPR
        go_enter Tryz.func61, Tryz.ntmps61
        go_upto_region 2 with (fail)
        obtain ⟨W, hW⟩ : ∃ W, W = (w.alloc (Obj.cells #[.string c.name, .slice ai c.ints.length ci, .int .u64 c.w, .slice aq c.rats.length cq, .int .i64 c.gn, .slice ag c.ge.length cg, .slice ak c.rank.length ck] 55)).alloc (Obj.cells #[.string c.name] 9) := ⟨_, rfl⟩
        have HP := Lib.hid (show PB W w.heap.size _ by rw [hW]; exact (PB.new7 _ _ _ _ _ _ _ _ _).go (Below.of_al _ _))
        have HB := Lib.hid (show Below w.heap.size w W by rw [hW]; exact (Below.of_al _ _).al _)
        have HO := Lib.hid (show W.ownsRow w.heap.size 9 1 (.slice (some ⟨w.heap.size + 1, 0, none⟩) 1 1) 1 [encS c.name] by rw [hW]; exact (by have := World.ownsRow_lit (base := w.heap.size) (e := 9) (size := 1) (w.alloc (Obj.cells #[.string c.name, .slice ai c.ints.length ci, .int .u64 c.w, .slice aq c.rats.length cq, .int .i64 c.gn, .slice ag c.ge.length cg, .slice ak c.rank.length ck] 55)) #[.string c.name] 1 (by simp) (by decide) rfl; simpa using this))
        rw [← hW]
        clear hW
        (obtain ⟨p0, -⟩ := (HP).out 0 _ rfl); (obtain ⟨p1, -⟩ := (HP).out 1 _ rfl); (obtain ⟨p2, -⟩ := (HP).out 2 _ rfl); (obtain ⟨p3, -⟩ := (HP).out 3 _ rfl); (obtain ⟨p4, -⟩ := (HP).out 4 _ rfl); (obtain ⟨p5, -⟩ := (HP).out 5 _ rfl); (obtain ⟨p6, -⟩ := (HP).out 6 _ rfl)
        have HZ0 := Lib.hid (show w.heap.size + 1 ≤ W.heap.size from (World.block_lt_of_cell? _ _ p0))
        have HOB := Lib.hid (show W.ownsRow (w.heap.size + 1) 9 1 (.slice (some ⟨w.heap.size + 1, 0, none⟩) (1 + 0) 1) (1 + 0) ((wI itoaT c 0).map encS) by
          rw [HI0.out]
          refine ⟨HO.out.1, HO.out.2.imp (fun h => h) ?_⟩
          rintro ⟨g, cap, cur, hv, hbg, r⟩
          refine ⟨g, cap, cur, hv, ?_, r⟩
          cases hv
          exact Nat.le_refl _)
        go_wp2
        go_loopg [3, 41] c.ints.length (fun g v3 v41 wr => ∃ (k a cp : Nat), k ≤ c.ints.length ∧ c.ints.length - k ≤ g ∧ v41 = .int .i64 k ∧ v3 = .slice (some ⟨a, 0, none⟩) (1 + k) cp ∧ Aside (wr.ownsRow (w.heap.size + 1) 9 1 (.slice (some ⟨a, 0, none⟩) (1 + k) cp) (1 + k) ((wI itoaT c k).map encS)) ∧ Aside (Below (w.heap.size + 1) W wr))
        case atStart => exact ⟨0, w.heap.size + 1, 1, Nat.zero_le _, by omega, rfl, rfl, HOB.out, Below.refl _ _⟩
        case round =>
          clear HO HOB
          obtain ⟨k, a, cp, hk, hg, rfl, rfl, HO, HBR⟩ := hrel
          have hk0 : (0 : Int) ≤ (k : Int) := by omega
          by_cases hlt : k < c.ints.length
          · have hlt3 : (k : Int) < (c.ints.length : Int) := by omega
            have HBW := Lib.hid (HB.out.trans (HBR.out.mono (Nat.le_succ _)))
            obtain ⟨bi, oi, hao, hcell⟩ := (HC.out.go HBW.out).at hlt
            have HS := Lib.hid (HIS.out k hlt)
            have HF := Lib.hid (itoaZ_any c.ints[k] (HOK.out.bi _ (List.getElem_mem hlt)).1 (HOK.out.bi _ (List.getElem_mem hlt)).2 wr (tabIs_go HT.out HBW.out))
            subst hao
            generalize c.ints[k] = x at *
            generalize itoaT x = tx at *
            have hs0 := HBR.out.size
            go_wp2_with (first
              | (go_at_call 90; refine HF.out.mono ?_; rintro e w1 ⟨rfl, hb1⟩; (have HO1 := Lib.hid (cm_owns_go HO.out hb1); have hs1 := hb1.size; have HB1 := Lib.hid (HBR.out.trans (hb1.mono (Nat.le_trans HZ0.out hs0))); clear hb1))
              | (at_builtin; go_must ((with_reducible refine wpList_app (w.heap.size + 1) 9 _ 1 16 elem_str Tryz.underlying26 (.slice (some ⟨a, 0, none⟩) (1 + k) cp) (1 + k) _ ⟨w1.heap.size, 0, none⟩ 1 1 [encS tx] ?_ ?_ (HO1.out.alloc _) (cm_one_at _ _ _ rfl) (cm_ones _) ⟨rfl, by decide, by omega, by omega, by have := HZ0.out; simp; omega⟩ ?_); (· rfl); (· rfl); intro g6 cap6 w6 hown hgrow hbl hat hlt6; (have HO6 := Lib.hid hown; have HB6 := Lib.hid ((HB1.out.trans ((Below.of_al w1 _).mono (by have := HZ0.out; omega))).trans hbl); clear hown hgrow hbl hat))))
            go_roundg (c.ints.length - (k + 1))
            case measure => omega
            case rel => exact ⟨k + 1, g6, cap6, by omega, by omega, by go_num, by rw [Nat.add_assoc], by rw [HS.out, List.map_append, ← Nat.add_assoc]; exact HO6.out, HB6.out⟩
          · have ek : k = c.ints.length := by omega
            subst ek
            have HP2 := Lib.hid (HP.out.eq (HBR.out.block w.heap.size (Nat.lt_succ_self _)))
            clear p0 p1 p2 p3 p4 p5 p6
            (obtain ⟨p0, -⟩ := (HP2).out 0 _ rfl); (obtain ⟨p1, -⟩ := (HP2).out 1 _ rfl); (obtain ⟨p2, -⟩ := (HP2).out 2 _ rfl); (obtain ⟨p3, -⟩ := (HP2).out 3 _ rfl); (obtain ⟨p4, -⟩ := (HP2).out 4 _ rfl); (obtain ⟨p5, -⟩ := (HP2).out 5 _ rfl); (obtain ⟨p6, -⟩ := (HP2).out 6 _ rfl)
            have HO2 := Lib.hid (show wr.ownsRow (w.heap.size + 1) 9 1 (.slice (some ⟨a, 0, none⟩) (1 + c.ints.length + 0) cp) (1 + c.ints.length + 0) ((wR itoaT c 0).map encS) by rw [HR0.out]; exact HO.out)
            have HB2 := Lib.hid HBR.out
            clear HO HBR HP2 HIS HI0 HR0
            go_wp2
            go_loopg [3, 54] c.rats.length (fun g v3 v54 wr => ∃ (k a cp : Nat), k ≤ c.rats.length ∧ c.rats.length - k ≤ g ∧ v54 = .int .i64 k ∧ v3 = .slice (some ⟨a, 0, none⟩) (1 + c.ints.length + k) cp ∧ Aside (wr.ownsRow (w.heap.size + 1) 9 1 (.slice (some ⟨a, 0, none⟩) (1 + c.ints.length + k) cp) (1 + c.ints.length + k) ((wR itoaT c k).map encS)) ∧ Aside (Below (w.heap.size + 1) W wr))
            case atStart => exact ⟨0, a, cp, Nat.zero_le _, by omega, rfl, rfl, HO2.out, HB2.out⟩
            case round =>
              clear HO2 HB2
              obtain ⟨k, a, cp, hk, hg, rfl, rfl, HO, HBR⟩ := hrel
              have hk0 : (0 : Int) ≤ (k : Int) := by omega
              have HBW := Lib.hid (HB.out.trans (HBR.out.mono (Nat.le_succ _)))
              by_cases hlt : k < c.rats.length
              · have hlt3 : (k : Int) < (c.rats.length : Int) := by omega
                obtain ⟨bi, oi, hao, hx1, hx2⟩ := flatP_at (HQ.out.go HBW.out) hlt
                have HS := Lib.hid (HRS.out k hlt)
                have HF := Lib.hid (fun W h => RPrint_any c.rats[k].1 c.rats[k].2 W (HOK.out.bq _ (List.getElem_mem hlt)) (tabIs_go HT.out h))
                subst hao
                generalize c.rats[k] = q at *
                obtain ⟨qn, qd⟩ := q
                simp only [ratV] at hx1 hx2 HS HF
                generalize ratioT qn qd = tx at *
                have hs0 := HBR.out.size
                go_wp2_with (first
                  | (go_at_call 101; refine (HF.out _ (HBW.out.al _)).mono ?_; rintro e w1 ⟨rfl, hb1⟩; (have HO1 := Lib.hid (cm_owns_go (HO.out.alloc _) hb1); have hs1 := hb1.size; have HB1 := Lib.hid ((HBR.out.trans ((Below.of_al wr (Obj.cells #[.int .u64 qn, .int .u64 qd] 98)).mono (Nat.le_trans HZ0.out hs0))).trans (hb1.mono (by have := HZ0.out; simp; omega))); clear hb1); have hs2 : wr.heap.size + 1 ≤ w1.heap.size := by simpa using hs1)
                  | (at_builtin; go_must ((with_reducible refine wpList_app (w.heap.size + 1) 9 _ 1 16 elem_str Tryz.underlying26 (.slice (some ⟨a, 0, none⟩) (1 + c.ints.length + k) cp) (1 + c.ints.length + k) _ ⟨w1.heap.size, 0, none⟩ 1 1 [encS tx] ?_ ?_ (HO1.out.alloc _) (cm_one_at _ _ _ rfl) (cm_ones _) ⟨rfl, by decide, by omega, by omega, by have := HZ0.out; simp; omega⟩ ?_); (· rfl); (· rfl); intro g6 cap6 w6 hown hgrow hbl hat hlt6; (have HO6 := Lib.hid hown; have HB6 := Lib.hid ((HB1.out.trans ((Below.of_al w1 _).mono (by have := HZ0.out; omega))).trans hbl); clear hown hgrow hbl hat))))
                go_roundg (c.rats.length - (k + 1))
                case measure => omega
                case rel => exact ⟨k + 1, g6, cap6, by omega, by omega, by go_num, by rw [Nat.add_assoc], by rw [HS.out, List.map_append, ← Nat.add_assoc]; exact HO6.out, HB6.out⟩
              · have ek : k = c.rats.length := by omega
                subst ek
                have HP2 := Lib.hid (HP.out.eq (HBR.out.block w.heap.size (Nat.lt_succ_self _)))
                clear p0 p1 p2 p3 p4 p5 p6
                (obtain ⟨p0, -⟩ := (HP2).out 0 _ rfl); (obtain ⟨p1, -⟩ := (HP2).out 1 _ rfl); (obtain ⟨p2, -⟩ := (HP2).out 2 _ rfl); (obtain ⟨p3, -⟩ := (HP2).out 3 _ rfl); (obtain ⟨p4, -⟩ := (HP2).out 4 _ rfl); (obtain ⟨p5, -⟩ := (HP2).out 5 _ rfl); (obtain ⟨p6, -⟩ := (HP2).out 6 _ rfl)
                go_wp2
                go_ret
                exact WordsRow.of (by rw [HRL.out]) (owns_le HO.out (Nat.le_succ _)) HBW.out

theorem cmdWords_any (c : CmD) (v : List Value) (w : World) (hc : CmV w c v) (ok : OkC c) (ht : Pow10 w) :
    Calls Tryz.prog 61 #[.agg v.toArray] w (WordsRow w (wordsBy itoaT c)) := by
  by_cases h1 : c.name = loadC
  · exact cmdWords_load c v w hc ok ht h1
  · by_cases h2 : c.name = buildC ∧ 0 < c.rank.length
    · exact cmdWords_build c v w hc ok ht h2.1 h2.2
    · exact cmdWords_rest c v w hc ok ht h1 h2

end Go.Proofs.YtelcmkccfjdmjaaGreatDoor

namespace Go.Proofs.YtelcmkccfjdmjaaGreatDoor
open Go Go.Proofs Go.RowKit Go.Shelf Go.Sort

set_option maxRecDepth 100000 in
set_option maxHeartbeats 4000000 in
theorem refWordsC_load (c : CmD) (v : List Value) (w : World) (hc : CmV w c v) (ok : OkC c) (hl : c.name = loadC) :
    Calls Tryz.prog 63 #[.agg v.toArray] w (WordsRow w (wordsBy refT c)) := by
  obtain ⟨ai, ci, aq, cq, ag, cg, ak, ck, rfl, -, -, h3, -⟩ := hc
  have hw : wordsBy refT c = c.name :: (wordsG ⟨c.gn, c.ge⟩).1 := if_pos hl
  have f0 : (c.name.toList == ([76, 79, 65, 68] : List UInt8)) = true := (cm_byt (a := c.name) (c := loadC) (l := [76, 79, 65, 68]) rfl).trans (decide_eq_true hl)
  have HG := Lib.hid (fun W h => refGWords_any ⟨c.gn, c.ge⟩ ag cg W ok.lg h)
  have hgl := wordsG_len ⟨c.gn, c.ge⟩
  unfold GWordsPost at HG
  have HC := Lib.hid h3
  rw [hw]
  clear hl hw h3 ok
  generalize wordsG ⟨c.gn, c.ge⟩ = q at *
  obtain ⟨l, f⟩ := q
  simp only at HG hgl ⊢
  go_enter Tryz.func63, Tryz.ntmps63
  go_wp2_with fail
  obtain ⟨W, hW⟩ : ∃ W, W = (w.alloc (Obj.cells #[.string c.name, .slice ai c.ints.length ci, .int .u64 c.w, .slice aq c.rats.length cq, .int .i64 c.gn, .slice ag c.ge.length cg, .slice ak c.rank.length ck] 60)).alloc (Obj.cells #[.string c.name] 9) := ⟨_, rfl⟩
  have HP := Lib.hid (show PB W w.heap.size _ by rw [hW]; exact (PB.new7 _ _ _ _ _ _ _ _ _).go (Below.of_al _ _))
  have HB := Lib.hid (show Below w.heap.size w W by rw [hW]; exact (Below.of_al _ _).al _)
  have HO := Lib.hid (show W.ownsRow w.heap.size 9 1 (.slice (some ⟨w.heap.size + 1, 0, none⟩) 1 1) 1 [encS c.name] by rw [hW]; exact (by have := World.ownsRow_lit (base := w.heap.size) (e := 9) (size := 1) (w.alloc (Obj.cells #[.string c.name, .slice ai c.ints.length ci, .int .u64 c.w, .slice aq c.rats.length cq, .int .i64 c.gn, .slice ag c.ge.length cg, .slice ak c.rank.length ck] 60)) #[.string c.name] 1 (by simp) (by decide) rfl; simpa using this))
  rw [← hW]
  clear hW
  refine (HG.out _ (HC.out.go HB.out)).mono ?_
  rintro e w1 ⟨ao1, cap1, rfl, hc1, hb1⟩
  have HO1 := cm_owns_go HO.out hb1
  obtain ⟨a2, c2, w2, hr2, ho2, hb2⟩ := run_appAll (P := Tryz.prog) 26 26 w.heap.size 9 _ 16 elem_str Tryz.underlying26 (some ⟨w.heap.size + 1, 0, none⟩) 1 1 [encS c.name] HO1 ao1 l.length cap1 (l.map encS) hc1 (fun u hu => by obtain ⟨x, _, rfl⟩ := List.mem_map.1 hu; rfl) (by refine ⟨by simp, by omega, by omega, (HB.out.st hb1).size⟩)
  have HO2 := Lib.hid ho2
  have HB2 := Lib.hid ((HB.out.st hb1).trans hb2)
  have HR2 := Lib.hid hr2
  clear HO1 ho2 hb2 hb1 hc1 hr2
  go_wp2_with (at_builtin; refine Lib.wpList_append_run _ rfl _ _ _ _ rfl _ _ rfl rfl _ _ HR2.out ?_)
  go_ret
  exact WordsRow.of (by simp; omega) HO2.out HB2.out

set_option maxRecDepth 100000 in
set_option maxHeartbeats 4000000 in
theorem refWordsC_build (c : CmD) (v : List Value) (w : World) (hc : CmV w c v) (ok : OkC c) (hl : c.name = buildC) (hr : 0 < c.rank.length) :
    Calls Tryz.prog 63 #[.agg v.toArray] w (WordsRow w (wordsBy refT c)) := by
  obtain ⟨ai, ci, aq, cq, ag, cg, ak, ck, rfl, -, -, -, h4⟩ := hc
  have hne : c.name ≠ loadC := by rw [hl]; decide
  have hw : wordsBy refT c = [c.name, textL c.rank] := (if_neg hne).trans (if_pos ⟨hl, hr⟩)
  have f0 : (c.name.toList == ([76, 79, 65, 68] : List UInt8)) = false := (cm_byt (a := c.name) (c := loadC) (l := [76, 79, 65, 68]) rfl).trans (decide_eq_false hne)
  have f1 : (c.name.toList == ([66, 85, 73, 76, 68] : List UInt8)) = true := (cm_byt (a := c.name) (c := buildC) (l := [66, 85, 73, 76, 68]) rfl).trans (decide_eq_true hl)
  have HG := Lib.hid (fun W h => refRkText_any c.rank ak ck W (by have := ok.lk; omega) h)
  have HC := Lib.hid h4
  have hr2 : (0 : Int) < (c.rank.length : Int) := by omega
  rw [hw]
  clear hl hw h4 ok hne hr
  generalize textL c.rank = x at *
  go_enter Tryz.func63, Tryz.ntmps63
  go_upto_region 2 with (fail)
  obtain ⟨W, hW⟩ : ∃ W, W = (w.alloc (Obj.cells #[.string c.name, .slice ai c.ints.length ci, .int .u64 c.w, .slice aq c.rats.length cq, .int .i64 c.gn, .slice ag c.ge.length cg, .slice ak c.rank.length ck] 60)).alloc (Obj.cells #[.string c.name] 9) := ⟨_, rfl⟩
  have HP := Lib.hid (show PB W w.heap.size _ by rw [hW]; exact (PB.new7 _ _ _ _ _ _ _ _ _).go (Below.of_al _ _))
  have HB := Lib.hid (show Below w.heap.size w W by rw [hW]; exact (Below.of_al _ _).al _)
  have HO := Lib.hid (show W.ownsRow w.heap.size 9 1 (.slice (some ⟨w.heap.size + 1, 0, none⟩) 1 1) 1 [encS c.name] by rw [hW]; exact (by have := World.ownsRow_lit (base := w.heap.size) (e := 9) (size := 1) (w.alloc (Obj.cells #[.string c.name, .slice ai c.ints.length ci, .int .u64 c.w, .slice aq c.rats.length cq, .int .i64 c.gn, .slice ag c.ge.length cg, .slice ak c.rank.length ck] 60)) #[.string c.name] 1 (by simp) (by decide) rfl; simpa using this))
  rw [← hW]
  clear hW
  (obtain ⟨p0, -⟩ := (HP).out 0 _ rfl); (obtain ⟨p1, -⟩ := (HP).out 1 _ rfl); (obtain ⟨p2, -⟩ := (HP).out 2 _ rfl); (obtain ⟨p3, -⟩ := (HP).out 3 _ rfl); (obtain ⟨p4, -⟩ := (HP).out 4 _ rfl); (obtain ⟨p5, -⟩ := (HP).out 5 _ rfl); (obtain ⟨p6, -⟩ := (HP).out 6 _ rfl)
  go_wp2_with fail
  refine (HG.out _ (HC.out.go HB.out)).mono ?_
  rintro e w1 ⟨rfl, hb1⟩
  have HO1 := Lib.hid (cm_owns_go HO.out hb1)
  have HB1 := Lib.hid (HB.out.st hb1)
  clear hb1
  go_wp2_with (at_builtin; go_must ((with_reducible refine wpList_app w.heap.size 9 _ 1 16 elem_str Tryz.underlying26 (.slice (some ⟨w.heap.size + 1, 0, none⟩) 1 1) 1 _ ⟨w1.heap.size, 0, none⟩ 1 1 [encS x] ?_ ?_ (HO1.out.alloc _) (cm_one_at _ _ _ rfl) (cm_ones _) ⟨rfl, by decide, by omega, by omega, by have := HB1.out.size; simp; omega⟩ ?_); (· rfl); (· rfl); intro g6 cap6 w6 hown hgrow hbl hat hlt6; (have HO6 := Lib.hid hown; have HB6 := Lib.hid ((HB1.out.al _).trans hbl); clear hown hgrow hbl hat)))
  go_ret
  exact WordsRow.of rfl HO6.out HB6.out

set_option maxRecDepth 100000 in
set_option maxHeartbeats 4000000 in
theorem refWordsC_rest (c : CmD) (v : List Value) (w : World) (hc : CmV w c v) (ok : OkC c) (h1 : c.name ≠ loadC) (h2 : ¬ (c.name = buildC ∧ 0 < c.rank.length)) :
    Calls Tryz.prog 63 #[.agg v.toArray] w (WordsRow w (wordsBy refT c)) := by
  obtain ⟨ai, ci, aq, cq, ag, cg, ak, ck, rfl, hi, hq, -, -⟩ := hc
  have f0 : (c.name.toList == ([76, 79, 65, 68] : List UInt8)) = false := (cm_byt (a := c.name) (c := loadC) (l := [76, 79, 65, 68]) rfl).trans (decide_eq_false h1)
  rw [wordsBy_rest h1 h2]
  have HC := Lib.hid hi
  have HQ := Lib.hid hq
  have HOK := Lib.hid ok
  have hli := ok.li
  have hlq := ok.lq
  have HI0 := Lib.hid (show (wI refT c 0).map encS = [encS c.name] from rfl)
  have HIS := Lib.hid (fun k h => wI_snoc refT c (k := k) h)
  have HR0 := Lib.hid (wR_zero refT c)
  have HRS := Lib.hid (fun k h => wR_snoc refT c (k := k) h)
  have HRL := Lib.hid (wR_len refT c (k := c.rats.length) (Nat.le_refl _))
  have hsw1 : (c.name.toList == ([83, 69, 84, 87] : List UInt8)) = decide (c.name = setwC) := cm_byt (c := setwC) (l := [83, 69, 84, 87]) rfl
  have hsw2 : (c.name.toList == ([78, 69, 65, 82] : List UInt8)) = decide (c.name = nearC) := cm_byt (c := nearC) (l := [78, 69, 65, 82]) rfl
  by_cases hb : c.name = buildC
  · have hz : c.rank.length = 0 := by
      have : ¬ 0 < c.rank.length := fun e => h2 ⟨hb, e⟩
      omega
    have f1 : (c.name.toList == ([66, 85, 73, 76, 68] : List UInt8)) = true := (cm_byt (a := c.name) (c := buildC) (l := [66, 85, 73, 76, 68]) rfl).trans (decide_eq_true hb)
    have g1 : (c.name.toList == ([83, 69, 84, 87] : List UInt8)) = false := hsw1.trans (by rw [hb]; decide)
    have g2 : (c.name.toList == ([78, 69, 65, 82] : List UInt8)) = false := hsw2.trans (by rw [hb]; decide)
    have hsw : isSW c.name = false := by rw [hb]; decide
    rw [hsw, if_neg (by decide), List.append_nil]
    have hz2 : ¬ (0 : Int) < (c.rank.length : Int) := by omega
    clear hz hb hsw1 hsw2 hsw h1 h2 hi hq ok
    go_enter Tryz.func63, Tryz.ntmps63
    go_upto_region 2 with (fail)
    obtain ⟨W, hW⟩ : ∃ W, W = (w.alloc (Obj.cells #[.string c.name, .slice ai c.ints.length ci, .int .u64 c.w, .slice aq c.rats.length cq, .int .i64 c.gn, .slice ag c.ge.length cg, .slice ak c.rank.length ck] 60)).alloc (Obj.cells #[.string c.name] 9) := ⟨_, rfl⟩
    have HP := Lib.hid (show PB W w.heap.size _ by rw [hW]; exact (PB.new7 _ _ _ _ _ _ _ _ _).go (Below.of_al _ _))
    have HB := Lib.hid (show Below w.heap.size w W by rw [hW]; exact (Below.of_al _ _).al _)
    have HO := Lib.hid (show W.ownsRow w.heap.size 9 1 (.slice (some ⟨w.heap.size + 1, 0, none⟩) 1 1) 1 [encS c.name] by rw [hW]; exact (by have := World.ownsRow_lit (base := w.heap.size) (e := 9) (size := 1) (w.alloc (Obj.cells #[.string c.name, .slice ai c.ints.length ci, .int .u64 c.w, .slice aq c.rats.length cq, .int .i64 c.gn, .slice ag c.ge.length cg, .slice ak c.rank.length ck] 60)) #[.string c.name] 1 (by simp) (by decide) rfl; simpa using this))
    rw [← hW]
    clear hW
    (obtain ⟨p0, -⟩ := (HP).out 0 _ rfl); (obtain ⟨p1, -⟩ := (HP).out 1 _ rfl); (obtain ⟨p2, -⟩ := (HP).out 2 _ rfl); (obtain ⟨p3, -⟩ := (HP).out 3 _ rfl); (obtain ⟨p4, -⟩ := (HP).out 4 _ rfl); (obtain ⟨p5, -⟩ := (HP).out 5 _ rfl); (obtain ⟨p6, -⟩ := (HP).out 6 _ rfl)
    have HZ0 := Lib.hid (show w.heap.size + 1 ≤ W.heap.size from (World.block_lt_of_cell? _ _ p0))
    have HOB := Lib.hid (show W.ownsRow (w.heap.size + 1) 9 1 (.slice (some ⟨w.heap.size + 1, 0, none⟩) (1 + 0) 1) (1 + 0) ((wI refT c 0).map encS) by
      rw [HI0.out]
      refine ⟨HO.out.1, HO.out.2.imp (fun h => h) ?_⟩
      rintro ⟨g, cap, cur, hv, hbg, r⟩
      refine ⟨g, cap, cur, hv, ?_, r⟩
      cases hv
      exact Nat.le_refl _)
    go_wp2
    go_loopg [3, 6] c.ints.length (fun g v3 v6 wr => ∃ (k a cp : Nat), k ≤ c.ints.length ∧ c.ints.length - k ≤ g ∧ v6 = .int .i64 k ∧ v3 = .slice (some ⟨a, 0, none⟩) (1 + k) cp ∧ Aside (wr.ownsRow (w.heap.size + 1) 9 1 (.slice (some ⟨a, 0, none⟩) (1 + k) cp) (1 + k) ((wI refT c k).map encS)) ∧ Aside (Below (w.heap.size + 1) W wr))
    case atStart => exact ⟨0, w.heap.size + 1, 1, Nat.zero_le _, by omega, rfl, rfl, HOB.out, Below.refl _ _⟩
    case round =>
      clear HO HOB p0 p1 p2 p3 p4 p5 p6
      obtain ⟨k, a, cp, hk, hg, rfl, rfl, HO, HBR⟩ := hrel
      have hk0 : (0 : Int) ≤ (k : Int) := by omega
      have HPW := Lib.hid (HP.out.eq (HBR.out.block w.heap.size (Nat.lt_succ_self _)))
      (obtain ⟨p0, -⟩ := (HPW).out 0 _ rfl); (obtain ⟨p1, -⟩ := (HPW).out 1 _ rfl); (obtain ⟨p2, -⟩ := (HPW).out 2 _ rfl); (obtain ⟨p3, -⟩ := (HPW).out 3 _ rfl); (obtain ⟨p4, -⟩ := (HPW).out 4 _ rfl); (obtain ⟨p5, -⟩ := (HPW).out 5 _ rfl); (obtain ⟨p6, -⟩ := (HPW).out 6 _ rfl)
      by_cases hlt : k < c.ints.length
      · have hlt3 : (k : Int) < (c.ints.length : Int) := by omega
        have HBW := Lib.hid (HB.out.trans (HBR.out.mono (Nat.le_succ _)))
        obtain ⟨bi, oi, hao, hcell⟩ := (HC.out.go HBW.out).at hlt
        have HS := Lib.hid (HIS.out k hlt)
        obtain ⟨hx0, hx1⟩ := HOK.out.bi _ (List.getElem_mem hlt)
        subst hao
        generalize c.ints[k] = x at *
        have hm0 : 0 ≤ max x 0 := by omega
        have hm1 : max x 0 ≤ 9223372036854775807 := by omega
        have HF := Lib.hid (show Calls Tryz.prog 46 #[.int .u64 (max x 0)] wr fun e w' => e = .returned (.string (refT x)) ∧ Below wr.heap.size wr w' from refPrint_any (max x 0) hm0 (by omega) wr)
        have hwm : IntKind.u64.wrap (max x 0) = max x 0 := IntWalk.u64_in _ (by omega)
        generalize refT x = tx at *
        have hs0 := HBR.out.size
        go_wp2_with (first
          | (go_at_call 46; refine HF.out.mono ?_; rintro e w1 ⟨rfl, hb1⟩; (have HO1 := Lib.hid (cm_owns_go HO.out hb1); have hs1 := hb1.size; have HB1 := Lib.hid (HBR.out.trans (hb1.mono (Nat.le_trans HZ0.out hs0))); clear hb1))
          | (at_builtin; go_must ((with_reducible refine wpList_app (w.heap.size + 1) 9 _ 1 16 elem_str Tryz.underlying26 (.slice (some ⟨a, 0, none⟩) (1 + k) cp) (1 + k) _ ⟨w1.heap.size, 0, none⟩ 1 1 [encS tx] ?_ ?_ (HO1.out.alloc _) (cm_one_at _ _ _ rfl) (cm_ones _) ⟨rfl, by decide, by omega, by omega, by have := HZ0.out; simp; omega⟩ ?_); (· rfl); (· rfl); intro g6 cap6 w6 hown hgrow hbl hat hlt6; (have HO6 := Lib.hid hown; have HB6 := Lib.hid ((HB1.out.trans ((Below.of_al w1 _).mono (by have := HZ0.out; omega))).trans hbl); clear hown hgrow hbl hat))))
        go_roundg (c.ints.length - (k + 1))
        case measure => omega
        case rel => exact ⟨k + 1, g6, cap6, by omega, by omega, by go_num, by rw [Nat.add_assoc], by rw [HS.out, List.map_append, ← Nat.add_assoc]; exact HO6.out, HB6.out⟩
      · have ek : k = c.ints.length := by omega
        subst ek
        have HO2 := Lib.hid (show wr.ownsRow (w.heap.size + 1) 9 1 (.slice (some ⟨a, 0, none⟩) (1 + c.ints.length + 0) cp) (1 + c.ints.length + 0) ((wR refT c 0).map encS) by rw [HR0.out]; exact HO.out)
        have HB2 := Lib.hid HBR.out
        clear HO HBR HIS HI0 HR0
        go_wp2
        go_loopg [3, 7] c.rats.length (fun g v3 v7 wr => ∃ (k a cp : Nat), k ≤ c.rats.length ∧ c.rats.length - k ≤ g ∧ v7 = .int .i64 k ∧ v3 = .slice (some ⟨a, 0, none⟩) (1 + c.ints.length + k) cp ∧ Aside (wr.ownsRow (w.heap.size + 1) 9 1 (.slice (some ⟨a, 0, none⟩) (1 + c.ints.length + k) cp) (1 + c.ints.length + k) ((wR refT c k).map encS)) ∧ Aside (Below (w.heap.size + 1) W wr))
        case atStart => exact ⟨0, a, cp, Nat.zero_le _, by omega, rfl, rfl, HO2.out, HB2.out⟩
        case round =>
          clear HO2 HB2 p0 p1 p2 p3 p4 p5 p6
          obtain ⟨k, a, cp, hk, hg, rfl, rfl, HO, HBR⟩ := hrel
          have hk0 : (0 : Int) ≤ (k : Int) := by omega
          have HBW := Lib.hid (HB.out.trans (HBR.out.mono (Nat.le_succ _)))
          have HPW := Lib.hid (HP.out.eq (HBR.out.block w.heap.size (Nat.lt_succ_self _)))
          (obtain ⟨p0, -⟩ := (HPW).out 0 _ rfl); (obtain ⟨p1, -⟩ := (HPW).out 1 _ rfl); (obtain ⟨p2, -⟩ := (HPW).out 2 _ rfl); (obtain ⟨p3, -⟩ := (HPW).out 3 _ rfl); (obtain ⟨p4, -⟩ := (HPW).out 4 _ rfl); (obtain ⟨p5, -⟩ := (HPW).out 5 _ rfl); (obtain ⟨p6, -⟩ := (HPW).out 6 _ rfl)
          by_cases hlt : k < c.rats.length
          · have hlt3 : (k : Int) < (c.rats.length : Int) := by omega
            obtain ⟨bi, oi, hao, hx1, hx2⟩ := flatP_at (HQ.out.go HBW.out) hlt
            have HS := Lib.hid (HRS.out k hlt)
            have HF := Lib.hid (fun W => refRPrint_any c.rats[k].1 c.rats[k].2 W (HOK.out.bq _ (List.getElem_mem hlt)))
            subst hao
            generalize c.rats[k] = q at *
            obtain ⟨qn, qd⟩ := q
            simp only [ratV] at hx1 hx2 HS HF
            generalize ratioT qn qd = tx at *
            have hs0 := HBR.out.size
            go_wp2_with (first
              | (go_at_call 104; refine (HF.out _).mono ?_; rintro e w1 ⟨rfl, hb1⟩; (have HO1 := Lib.hid (cm_owns_go HO.out hb1); have hs1 := hb1.size; have HB1 := Lib.hid (HBR.out.trans (hb1.mono (Nat.le_trans HZ0.out hs0))); clear hb1))
              | (at_builtin; go_must ((with_reducible refine wpList_app (w.heap.size + 1) 9 _ 1 16 elem_str Tryz.underlying26 (.slice (some ⟨a, 0, none⟩) (1 + c.ints.length + k) cp) (1 + c.ints.length + k) _ ⟨w1.heap.size, 0, none⟩ 1 1 [encS tx] ?_ ?_ (HO1.out.alloc _) (cm_one_at _ _ _ rfl) (cm_ones _) ⟨rfl, by decide, by omega, by omega, by have := HZ0.out; simp; omega⟩ ?_); (· rfl); (· rfl); intro g6 cap6 w6 hown hgrow hbl hat hlt6; (have HO6 := Lib.hid hown; have HB6 := Lib.hid ((HB1.out.trans ((Below.of_al w1 _).mono (by have := HZ0.out; omega))).trans hbl); clear hown hgrow hbl hat))))
            go_roundg (c.rats.length - (k + 1))
            case measure => omega
            case rel => exact ⟨k + 1, g6, cap6, by omega, by omega, by go_num, by rw [Nat.add_assoc], by rw [HS.out, List.map_append, ← Nat.add_assoc]; exact HO6.out, HB6.out⟩
          · have ek : k = c.rats.length := by omega
            subst ek
            go_wp2
            go_ret
            exact WordsRow.of (by rw [HRL.out]) (owns_le HO.out (Nat.le_succ _)) HBW.out
  · have f1 : (c.name.toList == ([66, 85, 73, 76, 68] : List UInt8)) = false := (cm_byt (a := c.name) (c := buildC) (l := [66, 85, 73, 76, 68]) rfl).trans (decide_eq_false hb)
    have HPR := Lib.hid (fun W => refPrint_any c.w ok.bw.1 ok.bw.2 W)
    cases hs1 : decide (c.name = setwC) with
    | true =>
      have hsw : isSW c.name = true := by unfold isSW; rw [hs1]; rfl
      rw [hs1] at hsw1
      rw [hsw, if_pos rfl]
      clear hb hs1 hsw2 hsw h1 h2 hi hq ok
      generalize printI c.w = pw at *
      go_enter Tryz.func63, Tryz.ntmps63
      go_upto_region 2 with (fail)
      obtain ⟨W, hW⟩ : ∃ W, W = (w.alloc (Obj.cells #[.string c.name, .slice ai c.ints.length ci, .int .u64 c.w, .slice aq c.rats.length cq, .int .i64 c.gn, .slice ag c.ge.length cg, .slice ak c.rank.length ck] 60)).alloc (Obj.cells #[.string c.name] 9) := ⟨_, rfl⟩
      have HP := Lib.hid (show PB W w.heap.size _ by rw [hW]; exact (PB.new7 _ _ _ _ _ _ _ _ _).go (Below.of_al _ _))
      have HB := Lib.hid (show Below w.heap.size w W by rw [hW]; exact (Below.of_al _ _).al _)
      have HO := Lib.hid (show W.ownsRow w.heap.size 9 1 (.slice (some ⟨w.heap.size + 1, 0, none⟩) 1 1) 1 [encS c.name] by rw [hW]; exact (by have := World.ownsRow_lit (base := w.heap.size) (e := 9) (size := 1) (w.alloc (Obj.cells #[.string c.name, .slice ai c.ints.length ci, .int .u64 c.w, .slice aq c.rats.length cq, .int .i64 c.gn, .slice ag c.ge.length cg, .slice ak c.rank.length ck] 60)) #[.string c.name] 1 (by simp) (by decide) rfl; simpa using this))
      rw [← hW]
      clear hW
      (obtain ⟨p0, -⟩ := (HP).out 0 _ rfl); (obtain ⟨p1, -⟩ := (HP).out 1 _ rfl); (obtain ⟨p2, -⟩ := (HP).out 2 _ rfl); (obtain ⟨p3, -⟩ := (HP).out 3 _ rfl); (obtain ⟨p4, -⟩ := (HP).out 4 _ rfl); (obtain ⟨p5, -⟩ := (HP).out 5 _ rfl); (obtain ⟨p6, -⟩ := (HP).out 6 _ rfl)
      have HZ0 := Lib.hid (show w.heap.size + 1 ≤ W.heap.size from (World.block_lt_of_cell? _ _ p0))
      have HOB := Lib.hid (show W.ownsRow (w.heap.size + 1) 9 1 (.slice (some ⟨w.heap.size + 1, 0, none⟩) (1 + 0) 1) (1 + 0) ((wI refT c 0).map encS) by
        rw [HI0.out]
        refine ⟨HO.out.1, HO.out.2.imp (fun h => h) ?_⟩
        rintro ⟨g, cap, cur, hv, hbg, r⟩
        refine ⟨g, cap, cur, hv, ?_, r⟩
        cases hv
        exact Nat.le_refl _)
      go_wp2
      go_loopg [3, 6] c.ints.length (fun g v3 v6 wr => ∃ (k a cp : Nat), k ≤ c.ints.length ∧ c.ints.length - k ≤ g ∧ v6 = .int .i64 k ∧ v3 = .slice (some ⟨a, 0, none⟩) (1 + k) cp ∧ Aside (wr.ownsRow (w.heap.size + 1) 9 1 (.slice (some ⟨a, 0, none⟩) (1 + k) cp) (1 + k) ((wI refT c k).map encS)) ∧ Aside (Below (w.heap.size + 1) W wr))
      case atStart => exact ⟨0, w.heap.size + 1, 1, Nat.zero_le _, by omega, rfl, rfl, HOB.out, Below.refl _ _⟩
      case round =>
        clear HO HOB p0 p1 p2 p3 p4 p5 p6
        obtain ⟨k, a, cp, hk, hg, rfl, rfl, HO, HBR⟩ := hrel
        have hk0 : (0 : Int) ≤ (k : Int) := by omega
        have HPW := Lib.hid (HP.out.eq (HBR.out.block w.heap.size (Nat.lt_succ_self _)))
        (obtain ⟨p0, -⟩ := (HPW).out 0 _ rfl); (obtain ⟨p1, -⟩ := (HPW).out 1 _ rfl); (obtain ⟨p2, -⟩ := (HPW).out 2 _ rfl); (obtain ⟨p3, -⟩ := (HPW).out 3 _ rfl); (obtain ⟨p4, -⟩ := (HPW).out 4 _ rfl); (obtain ⟨p5, -⟩ := (HPW).out 5 _ rfl); (obtain ⟨p6, -⟩ := (HPW).out 6 _ rfl)
        by_cases hlt : k < c.ints.length
        · have hlt3 : (k : Int) < (c.ints.length : Int) := by omega
          have HBW := Lib.hid (HB.out.trans (HBR.out.mono (Nat.le_succ _)))
          obtain ⟨bi, oi, hao, hcell⟩ := (HC.out.go HBW.out).at hlt
          have HS := Lib.hid (HIS.out k hlt)
          obtain ⟨hx0, hx1⟩ := HOK.out.bi _ (List.getElem_mem hlt)
          subst hao
          generalize c.ints[k] = x at *
          have hm0 : 0 ≤ max x 0 := by omega
          have hm1 : max x 0 ≤ 9223372036854775807 := by omega
          have HF := Lib.hid (show Calls Tryz.prog 46 #[.int .u64 (max x 0)] wr fun e w' => e = .returned (.string (refT x)) ∧ Below wr.heap.size wr w' from refPrint_any (max x 0) hm0 (by omega) wr)
          have hwm : IntKind.u64.wrap (max x 0) = max x 0 := IntWalk.u64_in _ (by omega)
          generalize refT x = tx at *
          have hs0 := HBR.out.size
          go_wp2_with (first
            | (go_at_call 46; refine HF.out.mono ?_; rintro e w1 ⟨rfl, hb1⟩; (have HO1 := Lib.hid (cm_owns_go HO.out hb1); have hs1 := hb1.size; have HB1 := Lib.hid (HBR.out.trans (hb1.mono (Nat.le_trans HZ0.out hs0))); clear hb1))
            | (at_builtin; go_must ((with_reducible refine wpList_app (w.heap.size + 1) 9 _ 1 16 elem_str Tryz.underlying26 (.slice (some ⟨a, 0, none⟩) (1 + k) cp) (1 + k) _ ⟨w1.heap.size, 0, none⟩ 1 1 [encS tx] ?_ ?_ (HO1.out.alloc _) (cm_one_at _ _ _ rfl) (cm_ones _) ⟨rfl, by decide, by omega, by omega, by have := HZ0.out; simp; omega⟩ ?_); (· rfl); (· rfl); intro g6 cap6 w6 hown hgrow hbl hat hlt6; (have HO6 := Lib.hid hown; have HB6 := Lib.hid ((HB1.out.trans ((Below.of_al w1 _).mono (by have := HZ0.out; omega))).trans hbl); clear hown hgrow hbl hat))))
          go_roundg (c.ints.length - (k + 1))
          case measure => omega
          case rel => exact ⟨k + 1, g6, cap6, by omega, by omega, by go_num, by rw [Nat.add_assoc], by rw [HS.out, List.map_append, ← Nat.add_assoc]; exact HO6.out, HB6.out⟩
        · have ek : k = c.ints.length := by omega
          subst ek
          have HO2 := Lib.hid (show wr.ownsRow (w.heap.size + 1) 9 1 (.slice (some ⟨a, 0, none⟩) (1 + c.ints.length + 0) cp) (1 + c.ints.length + 0) ((wR refT c 0).map encS) by rw [HR0.out]; exact HO.out)
          have HB2 := Lib.hid HBR.out
          clear HO HBR HIS HI0 HR0
          go_wp2
          go_loopg [3, 7] c.rats.length (fun g v3 v7 wr => ∃ (k a cp : Nat), k ≤ c.rats.length ∧ c.rats.length - k ≤ g ∧ v7 = .int .i64 k ∧ v3 = .slice (some ⟨a, 0, none⟩) (1 + c.ints.length + k) cp ∧ Aside (wr.ownsRow (w.heap.size + 1) 9 1 (.slice (some ⟨a, 0, none⟩) (1 + c.ints.length + k) cp) (1 + c.ints.length + k) ((wR refT c k).map encS)) ∧ Aside (Below (w.heap.size + 1) W wr))
          case atStart => exact ⟨0, a, cp, Nat.zero_le _, by omega, rfl, rfl, HO2.out, HB2.out⟩
          case round =>
            clear HO2 HB2 p0 p1 p2 p3 p4 p5 p6
            obtain ⟨k, a, cp, hk, hg, rfl, rfl, HO, HBR⟩ := hrel
            have hk0 : (0 : Int) ≤ (k : Int) := by omega
            have HBW := Lib.hid (HB.out.trans (HBR.out.mono (Nat.le_succ _)))
            have HPW := Lib.hid (HP.out.eq (HBR.out.block w.heap.size (Nat.lt_succ_self _)))
            (obtain ⟨p0, -⟩ := (HPW).out 0 _ rfl); (obtain ⟨p1, -⟩ := (HPW).out 1 _ rfl); (obtain ⟨p2, -⟩ := (HPW).out 2 _ rfl); (obtain ⟨p3, -⟩ := (HPW).out 3 _ rfl); (obtain ⟨p4, -⟩ := (HPW).out 4 _ rfl); (obtain ⟨p5, -⟩ := (HPW).out 5 _ rfl); (obtain ⟨p6, -⟩ := (HPW).out 6 _ rfl)
            by_cases hlt : k < c.rats.length
            · have hlt3 : (k : Int) < (c.rats.length : Int) := by omega
              obtain ⟨bi, oi, hao, hx1, hx2⟩ := flatP_at (HQ.out.go HBW.out) hlt
              have HS := Lib.hid (HRS.out k hlt)
              have HF := Lib.hid (fun W => refRPrint_any c.rats[k].1 c.rats[k].2 W (HOK.out.bq _ (List.getElem_mem hlt)))
              subst hao
              generalize c.rats[k] = q at *
              obtain ⟨qn, qd⟩ := q
              simp only [ratV] at hx1 hx2 HS HF
              generalize ratioT qn qd = tx at *
              have hs0 := HBR.out.size
              go_wp2_with (first
                | (go_at_call 104; refine (HF.out _).mono ?_; rintro e w1 ⟨rfl, hb1⟩; (have HO1 := Lib.hid (cm_owns_go HO.out hb1); have hs1 := hb1.size; have HB1 := Lib.hid (HBR.out.trans (hb1.mono (Nat.le_trans HZ0.out hs0))); clear hb1))
                | (at_builtin; go_must ((with_reducible refine wpList_app (w.heap.size + 1) 9 _ 1 16 elem_str Tryz.underlying26 (.slice (some ⟨a, 0, none⟩) (1 + c.ints.length + k) cp) (1 + c.ints.length + k) _ ⟨w1.heap.size, 0, none⟩ 1 1 [encS tx] ?_ ?_ (HO1.out.alloc _) (cm_one_at _ _ _ rfl) (cm_ones _) ⟨rfl, by decide, by omega, by omega, by have := HZ0.out; simp; omega⟩ ?_); (· rfl); (· rfl); intro g6 cap6 w6 hown hgrow hbl hat hlt6; (have HO6 := Lib.hid hown; have HB6 := Lib.hid ((HB1.out.trans ((Below.of_al w1 _).mono (by have := HZ0.out; omega))).trans hbl); clear hown hgrow hbl hat))))
              go_roundg (c.rats.length - (k + 1))
              case measure => omega
              case rel => exact ⟨k + 1, g6, cap6, by omega, by omega, by go_num, by rw [Nat.add_assoc], by rw [HS.out, List.map_append, ← Nat.add_assoc]; exact HO6.out, HB6.out⟩
            · have ek : k = c.rats.length := by omega
              subst ek
              have hs0 := HBR.out.size
              go_wp2_with (first
                | (go_at_call 46; refine (HPR.out _).mono ?_; rintro e w1 ⟨rfl, hb1⟩; (have HO1 := Lib.hid (cm_owns_go HO.out hb1); have hs1 := hb1.size; have HB1 := Lib.hid (HBR.out.trans (hb1.mono (Nat.le_trans HZ0.out hs0))); clear hb1))
                | (at_builtin; go_must ((with_reducible refine wpList_app (w.heap.size + 1) 9 _ 1 16 elem_str Tryz.underlying26 (.slice (some ⟨a, 0, none⟩) (1 + c.ints.length + c.rats.length) cp) (1 + c.ints.length + c.rats.length) _ ⟨w1.heap.size, 0, none⟩ 1 1 [encS pw] ?_ ?_ (HO1.out.alloc _) (cm_one_at _ _ _ rfl) (cm_ones _) ⟨rfl, by decide, by omega, by omega, by have := HZ0.out; simp; omega⟩ ?_); (· rfl); (· rfl); intro g6 cap6 w6 hown hgrow hbl hat hlt6; (have HO6 := Lib.hid hown; have HB6 := Lib.hid ((HB1.out.trans ((Below.of_al w1 _).mono (by have := HZ0.out; omega))).trans hbl); clear hown hgrow hbl hat))))
              go_ret
              exact WordsRow.of (by rw [List.length_append, HRL.out]; rfl) (by rw [List.map_append]; exact owns_le HO6.out (Nat.le_succ _)) (HB.out.trans (HB6.out.mono (Nat.le_succ _)))
    | false =>
      rw [hs1] at hsw1
      cases hs2 : decide (c.name = nearC) with
      | true =>
        have hsw : isSW c.name = true := by unfold isSW; rw [hs1, hs2]; rfl
        rw [hs2] at hsw2
        rw [hsw, if_pos rfl]
        clear hb hs1 hs2 hsw h1 h2 hi hq ok
        generalize printI c.w = pw at *
        go_enter Tryz.func63, Tryz.ntmps63
        go_upto_region 2 with (fail)
        obtain ⟨W, hW⟩ : ∃ W, W = (w.alloc (Obj.cells #[.string c.name, .slice ai c.ints.length ci, .int .u64 c.w, .slice aq c.rats.length cq, .int .i64 c.gn, .slice ag c.ge.length cg, .slice ak c.rank.length ck] 60)).alloc (Obj.cells #[.string c.name] 9) := ⟨_, rfl⟩
        have HP := Lib.hid (show PB W w.heap.size _ by rw [hW]; exact (PB.new7 _ _ _ _ _ _ _ _ _).go (Below.of_al _ _))
        have HB := Lib.hid (show Below w.heap.size w W by rw [hW]; exact (Below.of_al _ _).al _)
        have HO := Lib.hid (show W.ownsRow w.heap.size 9 1 (.slice (some ⟨w.heap.size + 1, 0, none⟩) 1 1) 1 [encS c.name] by rw [hW]; exact (by have := World.ownsRow_lit (base := w.heap.size) (e := 9) (size := 1) (w.alloc (Obj.cells #[.string c.name, .slice ai c.ints.length ci, .int .u64 c.w, .slice aq c.rats.length cq, .int .i64 c.gn, .slice ag c.ge.length cg, .slice ak c.rank.length ck] 60)) #[.string c.name] 1 (by simp) (by decide) rfl; simpa using this))
        rw [← hW]
        clear hW
        (obtain ⟨p0, -⟩ := (HP).out 0 _ rfl); (obtain ⟨p1, -⟩ := (HP).out 1 _ rfl); (obtain ⟨p2, -⟩ := (HP).out 2 _ rfl); (obtain ⟨p3, -⟩ := (HP).out 3 _ rfl); (obtain ⟨p4, -⟩ := (HP).out 4 _ rfl); (obtain ⟨p5, -⟩ := (HP).out 5 _ rfl); (obtain ⟨p6, -⟩ := (HP).out 6 _ rfl)
        have HZ0 := Lib.hid (show w.heap.size + 1 ≤ W.heap.size from (World.block_lt_of_cell? _ _ p0))
        have HOB := Lib.hid (show W.ownsRow (w.heap.size + 1) 9 1 (.slice (some ⟨w.heap.size + 1, 0, none⟩) (1 + 0) 1) (1 + 0) ((wI refT c 0).map encS) by
          rw [HI0.out]
          refine ⟨HO.out.1, HO.out.2.imp (fun h => h) ?_⟩
          rintro ⟨g, cap, cur, hv, hbg, r⟩
          refine ⟨g, cap, cur, hv, ?_, r⟩
          cases hv
          exact Nat.le_refl _)
        go_wp2
        go_loopg [3, 6] c.ints.length (fun g v3 v6 wr => ∃ (k a cp : Nat), k ≤ c.ints.length ∧ c.ints.length - k ≤ g ∧ v6 = .int .i64 k ∧ v3 = .slice (some ⟨a, 0, none⟩) (1 + k) cp ∧ Aside (wr.ownsRow (w.heap.size + 1) 9 1 (.slice (some ⟨a, 0, none⟩) (1 + k) cp) (1 + k) ((wI refT c k).map encS)) ∧ Aside (Below (w.heap.size + 1) W wr))
        case atStart => exact ⟨0, w.heap.size + 1, 1, Nat.zero_le _, by omega, rfl, rfl, HOB.out, Below.refl _ _⟩
        case round =>
          clear HO HOB p0 p1 p2 p3 p4 p5 p6
          obtain ⟨k, a, cp, hk, hg, rfl, rfl, HO, HBR⟩ := hrel
          have hk0 : (0 : Int) ≤ (k : Int) := by omega
          have HPW := Lib.hid (HP.out.eq (HBR.out.block w.heap.size (Nat.lt_succ_self _)))
          (obtain ⟨p0, -⟩ := (HPW).out 0 _ rfl); (obtain ⟨p1, -⟩ := (HPW).out 1 _ rfl); (obtain ⟨p2, -⟩ := (HPW).out 2 _ rfl); (obtain ⟨p3, -⟩ := (HPW).out 3 _ rfl); (obtain ⟨p4, -⟩ := (HPW).out 4 _ rfl); (obtain ⟨p5, -⟩ := (HPW).out 5 _ rfl); (obtain ⟨p6, -⟩ := (HPW).out 6 _ rfl)
          by_cases hlt : k < c.ints.length
          · have hlt3 : (k : Int) < (c.ints.length : Int) := by omega
            have HBW := Lib.hid (HB.out.trans (HBR.out.mono (Nat.le_succ _)))
            obtain ⟨bi, oi, hao, hcell⟩ := (HC.out.go HBW.out).at hlt
            have HS := Lib.hid (HIS.out k hlt)
            obtain ⟨hx0, hx1⟩ := HOK.out.bi _ (List.getElem_mem hlt)
            subst hao
            generalize c.ints[k] = x at *
            have hm0 : 0 ≤ max x 0 := by omega
            have hm1 : max x 0 ≤ 9223372036854775807 := by omega
            have HF := Lib.hid (show Calls Tryz.prog 46 #[.int .u64 (max x 0)] wr fun e w' => e = .returned (.string (refT x)) ∧ Below wr.heap.size wr w' from refPrint_any (max x 0) hm0 (by omega) wr)
            have hwm : IntKind.u64.wrap (max x 0) = max x 0 := IntWalk.u64_in _ (by omega)
            generalize refT x = tx at *
            have hs0 := HBR.out.size
            go_wp2_with (first
              | (go_at_call 46; refine HF.out.mono ?_; rintro e w1 ⟨rfl, hb1⟩; (have HO1 := Lib.hid (cm_owns_go HO.out hb1); have hs1 := hb1.size; have HB1 := Lib.hid (HBR.out.trans (hb1.mono (Nat.le_trans HZ0.out hs0))); clear hb1))
              | (at_builtin; go_must ((with_reducible refine wpList_app (w.heap.size + 1) 9 _ 1 16 elem_str Tryz.underlying26 (.slice (some ⟨a, 0, none⟩) (1 + k) cp) (1 + k) _ ⟨w1.heap.size, 0, none⟩ 1 1 [encS tx] ?_ ?_ (HO1.out.alloc _) (cm_one_at _ _ _ rfl) (cm_ones _) ⟨rfl, by decide, by omega, by omega, by have := HZ0.out; simp; omega⟩ ?_); (· rfl); (· rfl); intro g6 cap6 w6 hown hgrow hbl hat hlt6; (have HO6 := Lib.hid hown; have HB6 := Lib.hid ((HB1.out.trans ((Below.of_al w1 _).mono (by have := HZ0.out; omega))).trans hbl); clear hown hgrow hbl hat))))
            go_roundg (c.ints.length - (k + 1))
            case measure => omega
            case rel => exact ⟨k + 1, g6, cap6, by omega, by omega, by go_num, by rw [Nat.add_assoc], by rw [HS.out, List.map_append, ← Nat.add_assoc]; exact HO6.out, HB6.out⟩
          · have ek : k = c.ints.length := by omega
            subst ek
            have HO2 := Lib.hid (show wr.ownsRow (w.heap.size + 1) 9 1 (.slice (some ⟨a, 0, none⟩) (1 + c.ints.length + 0) cp) (1 + c.ints.length + 0) ((wR refT c 0).map encS) by rw [HR0.out]; exact HO.out)
            have HB2 := Lib.hid HBR.out
            clear HO HBR HIS HI0 HR0
            go_wp2
            go_loopg [3, 7] c.rats.length (fun g v3 v7 wr => ∃ (k a cp : Nat), k ≤ c.rats.length ∧ c.rats.length - k ≤ g ∧ v7 = .int .i64 k ∧ v3 = .slice (some ⟨a, 0, none⟩) (1 + c.ints.length + k) cp ∧ Aside (wr.ownsRow (w.heap.size + 1) 9 1 (.slice (some ⟨a, 0, none⟩) (1 + c.ints.length + k) cp) (1 + c.ints.length + k) ((wR refT c k).map encS)) ∧ Aside (Below (w.heap.size + 1) W wr))
            case atStart => exact ⟨0, a, cp, Nat.zero_le _, by omega, rfl, rfl, HO2.out, HB2.out⟩
            case round =>
              clear HO2 HB2 p0 p1 p2 p3 p4 p5 p6
              obtain ⟨k, a, cp, hk, hg, rfl, rfl, HO, HBR⟩ := hrel
              have hk0 : (0 : Int) ≤ (k : Int) := by omega
              have HBW := Lib.hid (HB.out.trans (HBR.out.mono (Nat.le_succ _)))
              have HPW := Lib.hid (HP.out.eq (HBR.out.block w.heap.size (Nat.lt_succ_self _)))
              (obtain ⟨p0, -⟩ := (HPW).out 0 _ rfl); (obtain ⟨p1, -⟩ := (HPW).out 1 _ rfl); (obtain ⟨p2, -⟩ := (HPW).out 2 _ rfl); (obtain ⟨p3, -⟩ := (HPW).out 3 _ rfl); (obtain ⟨p4, -⟩ := (HPW).out 4 _ rfl); (obtain ⟨p5, -⟩ := (HPW).out 5 _ rfl); (obtain ⟨p6, -⟩ := (HPW).out 6 _ rfl)
              by_cases hlt : k < c.rats.length
              · have hlt3 : (k : Int) < (c.rats.length : Int) := by omega
                obtain ⟨bi, oi, hao, hx1, hx2⟩ := flatP_at (HQ.out.go HBW.out) hlt
                have HS := Lib.hid (HRS.out k hlt)
                have HF := Lib.hid (fun W => refRPrint_any c.rats[k].1 c.rats[k].2 W (HOK.out.bq _ (List.getElem_mem hlt)))
                subst hao
                generalize c.rats[k] = q at *
                obtain ⟨qn, qd⟩ := q
                simp only [ratV] at hx1 hx2 HS HF
                generalize ratioT qn qd = tx at *
                have hs0 := HBR.out.size
                go_wp2_with (first
                  | (go_at_call 104; refine (HF.out _).mono ?_; rintro e w1 ⟨rfl, hb1⟩; (have HO1 := Lib.hid (cm_owns_go HO.out hb1); have hs1 := hb1.size; have HB1 := Lib.hid (HBR.out.trans (hb1.mono (Nat.le_trans HZ0.out hs0))); clear hb1))
                  | (at_builtin; go_must ((with_reducible refine wpList_app (w.heap.size + 1) 9 _ 1 16 elem_str Tryz.underlying26 (.slice (some ⟨a, 0, none⟩) (1 + c.ints.length + k) cp) (1 + c.ints.length + k) _ ⟨w1.heap.size, 0, none⟩ 1 1 [encS tx] ?_ ?_ (HO1.out.alloc _) (cm_one_at _ _ _ rfl) (cm_ones _) ⟨rfl, by decide, by omega, by omega, by have := HZ0.out; simp; omega⟩ ?_); (· rfl); (· rfl); intro g6 cap6 w6 hown hgrow hbl hat hlt6; (have HO6 := Lib.hid hown; have HB6 := Lib.hid ((HB1.out.trans ((Below.of_al w1 _).mono (by have := HZ0.out; omega))).trans hbl); clear hown hgrow hbl hat))))
                go_roundg (c.rats.length - (k + 1))
                case measure => omega
                case rel => exact ⟨k + 1, g6, cap6, by omega, by omega, by go_num, by rw [Nat.add_assoc], by rw [HS.out, List.map_append, ← Nat.add_assoc]; exact HO6.out, HB6.out⟩
              · have ek : k = c.rats.length := by omega
                subst ek
                have hs0 := HBR.out.size
                go_wp2_with (first
                  | (go_at_call 46; refine (HPR.out _).mono ?_; rintro e w1 ⟨rfl, hb1⟩; (have HO1 := Lib.hid (cm_owns_go HO.out hb1); have hs1 := hb1.size; have HB1 := Lib.hid (HBR.out.trans (hb1.mono (Nat.le_trans HZ0.out hs0))); clear hb1))
                  | (at_builtin; go_must ((with_reducible refine wpList_app (w.heap.size + 1) 9 _ 1 16 elem_str Tryz.underlying26 (.slice (some ⟨a, 0, none⟩) (1 + c.ints.length + c.rats.length) cp) (1 + c.ints.length + c.rats.length) _ ⟨w1.heap.size, 0, none⟩ 1 1 [encS pw] ?_ ?_ (HO1.out.alloc _) (cm_one_at _ _ _ rfl) (cm_ones _) ⟨rfl, by decide, by omega, by omega, by have := HZ0.out; simp; omega⟩ ?_); (· rfl); (· rfl); intro g6 cap6 w6 hown hgrow hbl hat hlt6; (have HO6 := Lib.hid hown; have HB6 := Lib.hid ((HB1.out.trans ((Below.of_al w1 _).mono (by have := HZ0.out; omega))).trans hbl); clear hown hgrow hbl hat))))
                go_ret
                exact WordsRow.of (by rw [List.length_append, HRL.out]; rfl) (by rw [List.map_append]; exact owns_le HO6.out (Nat.le_succ _)) (HB.out.trans (HB6.out.mono (Nat.le_succ _)))
      | false =>
        have hsw : isSW c.name = false := by unfold isSW; rw [hs1, hs2]; rfl
        rw [hs2] at hsw2
        rw [hsw, if_neg (by decide), List.append_nil]
        clear hb hs1 hs2 hsw h1 h2 hi hq ok HPR
        go_enter Tryz.func63, Tryz.ntmps63
        go_upto_region 2 with (fail)
        obtain ⟨W, hW⟩ : ∃ W, W = (w.alloc (Obj.cells #[.string c.name, .slice ai c.ints.length ci, .int .u64 c.w, .slice aq c.rats.length cq, .int .i64 c.gn, .slice ag c.ge.length cg, .slice ak c.rank.length ck] 60)).alloc (Obj.cells #[.string c.name] 9) := ⟨_, rfl⟩
        have HP := Lib.hid (show PB W w.heap.size _ by rw [hW]; exact (PB.new7 _ _ _ _ _ _ _ _ _).go (Below.of_al _ _))
        have HB := Lib.hid (show Below w.heap.size w W by rw [hW]; exact (Below.of_al _ _).al _)
        have HO := Lib.hid (show W.ownsRow w.heap.size 9 1 (.slice (some ⟨w.heap.size + 1, 0, none⟩) 1 1) 1 [encS c.name] by rw [hW]; exact (by have := World.ownsRow_lit (base := w.heap.size) (e := 9) (size := 1) (w.alloc (Obj.cells #[.string c.name, .slice ai c.ints.length ci, .int .u64 c.w, .slice aq c.rats.length cq, .int .i64 c.gn, .slice ag c.ge.length cg, .slice ak c.rank.length ck] 60)) #[.string c.name] 1 (by simp) (by decide) rfl; simpa using this))
        rw [← hW]
        clear hW
        (obtain ⟨p0, -⟩ := (HP).out 0 _ rfl); (obtain ⟨p1, -⟩ := (HP).out 1 _ rfl); (obtain ⟨p2, -⟩ := (HP).out 2 _ rfl); (obtain ⟨p3, -⟩ := (HP).out 3 _ rfl); (obtain ⟨p4, -⟩ := (HP).out 4 _ rfl); (obtain ⟨p5, -⟩ := (HP).out 5 _ rfl); (obtain ⟨p6, -⟩ := (HP).out 6 _ rfl)
        have HZ0 := Lib.hid (show w.heap.size + 1 ≤ W.heap.size from (World.block_lt_of_cell? _ _ p0))
        have HOB := Lib.hid (show W.ownsRow (w.heap.size + 1) 9 1 (.slice (some ⟨w.heap.size + 1, 0, none⟩) (1 + 0) 1) (1 + 0) ((wI refT c 0).map encS) by
          rw [HI0.out]
          refine ⟨HO.out.1, HO.out.2.imp (fun h => h) ?_⟩
          rintro ⟨g, cap, cur, hv, hbg, r⟩
          refine ⟨g, cap, cur, hv, ?_, r⟩
          cases hv
          exact Nat.le_refl _)
        go_wp2
        go_loopg [3, 6] c.ints.length (fun g v3 v6 wr => ∃ (k a cp : Nat), k ≤ c.ints.length ∧ c.ints.length - k ≤ g ∧ v6 = .int .i64 k ∧ v3 = .slice (some ⟨a, 0, none⟩) (1 + k) cp ∧ Aside (wr.ownsRow (w.heap.size + 1) 9 1 (.slice (some ⟨a, 0, none⟩) (1 + k) cp) (1 + k) ((wI refT c k).map encS)) ∧ Aside (Below (w.heap.size + 1) W wr))
        case atStart => exact ⟨0, w.heap.size + 1, 1, Nat.zero_le _, by omega, rfl, rfl, HOB.out, Below.refl _ _⟩
        case round =>
          clear HO HOB p0 p1 p2 p3 p4 p5 p6
          obtain ⟨k, a, cp, hk, hg, rfl, rfl, HO, HBR⟩ := hrel
          have hk0 : (0 : Int) ≤ (k : Int) := by omega
          have HPW := Lib.hid (HP.out.eq (HBR.out.block w.heap.size (Nat.lt_succ_self _)))
          (obtain ⟨p0, -⟩ := (HPW).out 0 _ rfl); (obtain ⟨p1, -⟩ := (HPW).out 1 _ rfl); (obtain ⟨p2, -⟩ := (HPW).out 2 _ rfl); (obtain ⟨p3, -⟩ := (HPW).out 3 _ rfl); (obtain ⟨p4, -⟩ := (HPW).out 4 _ rfl); (obtain ⟨p5, -⟩ := (HPW).out 5 _ rfl); (obtain ⟨p6, -⟩ := (HPW).out 6 _ rfl)
          by_cases hlt : k < c.ints.length
          · have hlt3 : (k : Int) < (c.ints.length : Int) := by omega
            have HBW := Lib.hid (HB.out.trans (HBR.out.mono (Nat.le_succ _)))
            obtain ⟨bi, oi, hao, hcell⟩ := (HC.out.go HBW.out).at hlt
            have HS := Lib.hid (HIS.out k hlt)
            obtain ⟨hx0, hx1⟩ := HOK.out.bi _ (List.getElem_mem hlt)
            subst hao
            generalize c.ints[k] = x at *
            have hm0 : 0 ≤ max x 0 := by omega
            have hm1 : max x 0 ≤ 9223372036854775807 := by omega
            have HF := Lib.hid (show Calls Tryz.prog 46 #[.int .u64 (max x 0)] wr fun e w' => e = .returned (.string (refT x)) ∧ Below wr.heap.size wr w' from refPrint_any (max x 0) hm0 (by omega) wr)
            have hwm : IntKind.u64.wrap (max x 0) = max x 0 := IntWalk.u64_in _ (by omega)
            generalize refT x = tx at *
            have hs0 := HBR.out.size
            go_wp2_with (first
              | (go_at_call 46; refine HF.out.mono ?_; rintro e w1 ⟨rfl, hb1⟩; (have HO1 := Lib.hid (cm_owns_go HO.out hb1); have hs1 := hb1.size; have HB1 := Lib.hid (HBR.out.trans (hb1.mono (Nat.le_trans HZ0.out hs0))); clear hb1))
              | (at_builtin; go_must ((with_reducible refine wpList_app (w.heap.size + 1) 9 _ 1 16 elem_str Tryz.underlying26 (.slice (some ⟨a, 0, none⟩) (1 + k) cp) (1 + k) _ ⟨w1.heap.size, 0, none⟩ 1 1 [encS tx] ?_ ?_ (HO1.out.alloc _) (cm_one_at _ _ _ rfl) (cm_ones _) ⟨rfl, by decide, by omega, by omega, by have := HZ0.out; simp; omega⟩ ?_); (· rfl); (· rfl); intro g6 cap6 w6 hown hgrow hbl hat hlt6; (have HO6 := Lib.hid hown; have HB6 := Lib.hid ((HB1.out.trans ((Below.of_al w1 _).mono (by have := HZ0.out; omega))).trans hbl); clear hown hgrow hbl hat))))
            go_roundg (c.ints.length - (k + 1))
            case measure => omega
            case rel => exact ⟨k + 1, g6, cap6, by omega, by omega, by go_num, by rw [Nat.add_assoc], by rw [HS.out, List.map_append, ← Nat.add_assoc]; exact HO6.out, HB6.out⟩
          · have ek : k = c.ints.length := by omega
            subst ek
            have HO2 := Lib.hid (show wr.ownsRow (w.heap.size + 1) 9 1 (.slice (some ⟨a, 0, none⟩) (1 + c.ints.length + 0) cp) (1 + c.ints.length + 0) ((wR refT c 0).map encS) by rw [HR0.out]; exact HO.out)
            have HB2 := Lib.hid HBR.out
            clear HO HBR HIS HI0 HR0
            go_wp2
            go_loopg [3, 7] c.rats.length (fun g v3 v7 wr => ∃ (k a cp : Nat), k ≤ c.rats.length ∧ c.rats.length - k ≤ g ∧ v7 = .int .i64 k ∧ v3 = .slice (some ⟨a, 0, none⟩) (1 + c.ints.length + k) cp ∧ Aside (wr.ownsRow (w.heap.size + 1) 9 1 (.slice (some ⟨a, 0, none⟩) (1 + c.ints.length + k) cp) (1 + c.ints.length + k) ((wR refT c k).map encS)) ∧ Aside (Below (w.heap.size + 1) W wr))
            case atStart => exact ⟨0, a, cp, Nat.zero_le _, by omega, rfl, rfl, HO2.out, HB2.out⟩
            case round =>
              clear HO2 HB2 p0 p1 p2 p3 p4 p5 p6
              obtain ⟨k, a, cp, hk, hg, rfl, rfl, HO, HBR⟩ := hrel
              have hk0 : (0 : Int) ≤ (k : Int) := by omega
              have HBW := Lib.hid (HB.out.trans (HBR.out.mono (Nat.le_succ _)))
              have HPW := Lib.hid (HP.out.eq (HBR.out.block w.heap.size (Nat.lt_succ_self _)))
              (obtain ⟨p0, -⟩ := (HPW).out 0 _ rfl); (obtain ⟨p1, -⟩ := (HPW).out 1 _ rfl); (obtain ⟨p2, -⟩ := (HPW).out 2 _ rfl); (obtain ⟨p3, -⟩ := (HPW).out 3 _ rfl); (obtain ⟨p4, -⟩ := (HPW).out 4 _ rfl); (obtain ⟨p5, -⟩ := (HPW).out 5 _ rfl); (obtain ⟨p6, -⟩ := (HPW).out 6 _ rfl)
              by_cases hlt : k < c.rats.length
              · have hlt3 : (k : Int) < (c.rats.length : Int) := by omega
                obtain ⟨bi, oi, hao, hx1, hx2⟩ := flatP_at (HQ.out.go HBW.out) hlt
                have HS := Lib.hid (HRS.out k hlt)
                have HF := Lib.hid (fun W => refRPrint_any c.rats[k].1 c.rats[k].2 W (HOK.out.bq _ (List.getElem_mem hlt)))
                subst hao
                generalize c.rats[k] = q at *
                obtain ⟨qn, qd⟩ := q
                simp only [ratV] at hx1 hx2 HS HF
                generalize ratioT qn qd = tx at *
                have hs0 := HBR.out.size
                go_wp2_with (first
                  | (go_at_call 104; refine (HF.out _).mono ?_; rintro e w1 ⟨rfl, hb1⟩; (have HO1 := Lib.hid (cm_owns_go HO.out hb1); have hs1 := hb1.size; have HB1 := Lib.hid (HBR.out.trans (hb1.mono (Nat.le_trans HZ0.out hs0))); clear hb1))
                  | (at_builtin; go_must ((with_reducible refine wpList_app (w.heap.size + 1) 9 _ 1 16 elem_str Tryz.underlying26 (.slice (some ⟨a, 0, none⟩) (1 + c.ints.length + k) cp) (1 + c.ints.length + k) _ ⟨w1.heap.size, 0, none⟩ 1 1 [encS tx] ?_ ?_ (HO1.out.alloc _) (cm_one_at _ _ _ rfl) (cm_ones _) ⟨rfl, by decide, by omega, by omega, by have := HZ0.out; simp; omega⟩ ?_); (· rfl); (· rfl); intro g6 cap6 w6 hown hgrow hbl hat hlt6; (have HO6 := Lib.hid hown; have HB6 := Lib.hid ((HB1.out.trans ((Below.of_al w1 _).mono (by have := HZ0.out; omega))).trans hbl); clear hown hgrow hbl hat))))
                go_roundg (c.rats.length - (k + 1))
                case measure => omega
                case rel => exact ⟨k + 1, g6, cap6, by omega, by omega, by go_num, by rw [Nat.add_assoc], by rw [HS.out, List.map_append, ← Nat.add_assoc]; exact HO6.out, HB6.out⟩
              · have ek : k = c.rats.length := by omega
                subst ek
                go_wp2
                go_ret
                exact WordsRow.of (by rw [HRL.out]) (owns_le HO.out (Nat.le_succ _)) HBW.out

theorem refWordsC_any (c : CmD) (v : List Value) (w : World) (hc : CmV w c v) (ok : OkC c) :
    Calls Tryz.prog 63 #[.agg v.toArray] w (WordsRow w (wordsBy refT c)) := by
  by_cases h1 : c.name = loadC
  · exact refWordsC_load c v w hc ok h1
  · by_cases h2 : c.name = buildC ∧ 0 < c.rank.length
    · exact refWordsC_build c v w hc ok h2.1 h2.2
    · exact refWordsC_rest c v w hc ok h1 h2

end Go.Proofs.YtelcmkccfjdmjaaGreatDoor
