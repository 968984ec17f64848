/-
  Walks of package rank: the rank of any text, and by its reference.
-/
import Derived.Test.YtelcmkccfjdmjaaDoorProg
import Derived.Test.YtelcmkccfjdmjaaDoorRkD
namespace Go.Proofs.YtelcmkccfjdmjaaDoor
open Go Go.Proofs Go.RowKit Go.Shelf Go.Sort

theorem rkParse_own (s : ByteArray) (w : World) (hs : s.size ≤ 2000) : Calls Tryd.prog 53 #[.string s] w (RkPostF w (rankP s)) := by
  rcases Nat.eq_zero_or_pos s.size with h0 | hpos
  · obtain rfl := size_zero h0
    have HR := Lib.hid (show rankP ByteArray.empty = ([], 0) from rfl)
    generalize rankP ByteArray.empty = r at *
    go_enter Tryd.func53, Tryd.ntmps53
    repeat go_step
    refine wp_scope_straight ?_
    go_wp2
    have r0 : ((w.alloc (Obj.cells #[.slice none 0 0] 23)).alloc (Obj.cells #[.int .i64 0] 31)).cell? ⟨w.heap.size, 0, none⟩ = some (.slice none 0 0) := by go_simp
    have r1 : ((w.alloc (Obj.cells #[.slice none 0 0] 23)).alloc (Obj.cells #[.int .i64 0] 31)).cell? ⟨w.heap.size + 1, 0, none⟩ = some (.int .i64 0) := by go_simp
    refine bodyPost_ret (v := .tuple #[.slice none 0 0, .int .i64 0]) (by simp [results, Tryd.results53, go_sem, r0, r1]; try rfl) rfl ?_
    exact ⟨none, 0, by rw [HR.out]; rfl, by rw [HR.out]; exact Cel.nil _ _, by repeat (first | exact Below.refl _ _ | refine Below.al ?_ _ | refine Below.dr ?_ _ | refine Below.drew ?_ | assumption | (refine Below.st ?_ (by assumption))), fun _ e => by cases e⟩
  · exact rkParse_some s w hs hpos

theorem rkParse_any (s : ByteArray) (w : World) (hs : s.size ≤ 2000) : Calls Tryd.prog 53 #[.string s] w (RkPost w (rankP s)) :=
  (rkParse_own s w hs).mono fun _ _ ⟨ao, cap, h1, h2, h3, _⟩ => ⟨ao, cap, h1, h2, h3⟩

/-- as the reference has it -/
def wideR (ps : List ByteArray) : Bool := ps.any fun p => (parseI p).2 != 0 || decide (4611686018427387904 < (parseI p).1)
def valsR (ps : List ByteArray) : List Int := ps.map fun p => IntKind.i64.wrap (parseI p).1
theorem wideR_snoc (pre : List ByteArray) (x : ByteArray) : wideR (pre ++ [x]) = (wideR pre || ((parseI x).2 != 0 || decide (4611686018427387904 < (parseI x).1))) := by unfold wideR; simp
theorem valsR_snoc (pre : List ByteArray) (x : ByteArray) : valsR (pre ++ [x]) = valsR pre ++ [IntKind.i64.wrap (parseI x).1] := by unfold valsR; simp
theorem valsR_length (ps : List ByteArray) : (valsR ps).length = ps.length := by unfold valsR; simp
theorem rankP_ref {s : ByteArray} (h0 : 0 < s.size) (hs : s.size ≤ 2000) (h : synK (partsS 44 s) = false) :
    rankP s = if wideR (partsS 44 s) || !rankB (valsR (partsS 44 s)) then ([], 2) else (valsR (partsS 44 s), 0) := by
  unfold rankP
  rw [if_neg (by omega), h]
  simp only [Bool.false_eq_true, if_false]
  have hcount := @partsS_count 44 s
  generalize partsS 44 s = ps at *
  cases hr : wideR ps with
  | true =>
    have hk : wideK ps = true := by
      unfold wideR at hr
      unfold wideK
      rw [List.any_eq_true] at hr ⊢
      obtain ⟨p, hp, h2⟩ := hr
      refine ⟨p, hp, ?_⟩
      simp only [Bool.or_eq_true, decide_eq_true_eq] at h2 ⊢
      exact h2.imp id (fun h => by omega)
    rw [hk]
    simp
  | false =>
    have hall : ∀ p ∈ ps, (parseI p).2 = 0 ∧ (parseI p).1 ≤ 4611686018427387904 := by
      intro p hp
      unfold wideR at hr
      rw [List.any_eq_false] at hr
      have := hr p hp
      simpa using this
    have hv : valsR ps = valsK ps := by
      unfold valsR valsK
      refine List.map_congr_left fun p hp => ?_
      have h1 := hall p hp
      have h2 := parseI_le p
      exact IntWalk.i64_in _ (by omega)
    rw [hv]
    cases hk : wideK ps with
    | false => rfl
    | true =>
      have hb : rankB (valsK ps) = false := by
        unfold wideK at hk
        rw [List.any_eq_true] at hk
        obtain ⟨p, hp, h2⟩ := hk
        rw [(hall p hp).1] at h2
        have h3 : 4096 < (parseI p).1 := by simpa using h2
        refine rankB_out (x := (parseI p).1) (List.mem_map.2 ⟨p, hp, rfl⟩) (.inr ?_)
        unfold valsK
        rw [List.length_map]
        omega
      rw [hb]
      rfl

theorem indexByte_at {l : List UInt8} {c : UInt8} {k : Nat} (hk : l[k]? = some c) (h : ∀ j, j < k → l[j]? ≠ some c) : Lib.indexByte l c = (k : Int) := by
  have hge := Lib.indexByte_ge l c
  by_cases hn : Lib.indexByte l c = -1
  · exact absurd hk (Lib.indexByte_none hn k)
  · obtain ⟨o, ho⟩ : ∃ o : Nat, Lib.indexByte l c = (o : Int) := ⟨(Lib.indexByte l c).toNat, by omega⟩
    obtain ⟨h1, h2⟩ := Lib.indexByte_some ho
    have : o = k := by
      rcases Nat.lt_trichotomy o k with hh | hh | hh
      · exact absurd h1 (h o hh)
      · exact hh
      · exact absurd hk (h2 k hh)
    rw [ho, this]
theorem indexByte_not {l : List UInt8} {c : UInt8} (h : ∀ j : Nat, l[j]? ≠ some c) : Lib.indexByte l c = -1 := by
  have hge := Lib.indexByte_ge l c
  by_cases hn : Lib.indexByte l c = -1
  · exact hn
  · obtain ⟨o, ho⟩ : ∃ o : Nat, Lib.indexByte l c = (o : Int) := ⟨(Lib.indexByte l c).toNat, by omega⟩
    exact absurd (Lib.indexByte_some ho).1 (h o)
theorem ext_at {s : ByteArray} {f j : Nat} (h : f + j < s.size) : (s.extract f s.size).data.toList[j]? = some s[f + j] := by
  rw [ext_data, List.take_of_length_le (by simp), List.getElem?_drop]
  rw [List.getElem?_eq_getElem (by simpa using h)]
  rfl
theorem ext_none {s : ByteArray} {f j : Nat} (h : ¬ f + j < s.size) : (s.extract f s.size).data.toList[j]? = none := by
  rw [ext_data, List.take_of_length_le (by simp), List.getElem?_drop]
  exact List.getElem?_eq_none (by simp; omega)
/-- no comma from f to i -/
def noC (s : ByteArray) (f i : Nat) : Prop := ∀ j (h : j < s.size), f ≤ j → j < i → s[j] ≠ 44
theorem parts_at {s : ByteArray} {f i : Nat} (hf : f ≤ i) (hi : i < s.size) (hc : s[i] = 44) (hn : noC s f i) :
    partsS 44 (s.extract f s.size) = s.extract f i :: partsS 44 (s.extract (i + 1) s.size) := by
  have e := indexByte_at (l := (s.extract f s.size).data.toList) (c := 44) (k := i - f) (by rw [ext_at (by omega)]; simp only [show f + (i - f) = i by omega, hc]) (fun j hj => by
    rw [ext_at (by omega)]
    intro e
    exact hn (f + j) (by omega) (by omega) (by omega) (by simpa using e))
  have hz : (s.extract f s.size).size = s.size - f := by rw [ByteArray.size_extract]; omega
  rw [partsS_some e (by rw [hz]; omega), hz]
  congr 1
  · apply Go.WideShapes.bytes_inj
    have eT : s.data.toList.take s.size = s.data.toList := List.take_of_length_le (by simp)
    simp only [ext_data, eT, List.drop_zero, List.drop_take, Nat.sub_zero]
  · congr 1
    apply Go.WideShapes.bytes_inj
    have eT : s.data.toList.take s.size = s.data.toList := List.take_of_length_le (by simp)
    have eU : (s.data.toList.drop f).take (s.size - f) = s.data.toList.drop f := List.take_of_length_le (by simp)
    simp only [ext_data, eT, eU, List.drop_drop]
    congr 1
    omega
theorem parts_end {s : ByteArray} {f : Nat} (hn : noC s f s.size) : partsS 44 (s.extract f s.size) = [s.extract f s.size] := by
  refine partsS_none (indexByte_not fun j => ?_)
  by_cases h : f + j < s.size
  · rw [ext_at h]
    intro e
    exact hn (f + j) h (by omega) h (by simpa using e)
  · rw [ext_none h]
    simp
theorem ext_all (s : ByteArray) : s.extract 0 s.size = s := by
  apply Go.WideShapes.bytes_inj
  rw [ext_data, List.take_of_length_le (by simp), List.drop_zero]

/-- how far the reference's Parse is -/
def RkP (s : ByteArray) (i f : Nat) (pre : List ByteArray) : Prop :=
  synK pre = false ∧ ((i ≤ s.size ∧ f ≤ i ∧ partsS 44 s = pre ++ partsS 44 (s.extract f s.size) ∧ noC s f i) ∨ (i = s.size + 1 ∧ f = s.size + 1 ∧ partsS 44 s = pre))
theorem RkP.start (s : ByteArray) : RkP s 0 0 [] := ⟨rfl, .inl ⟨Nat.zero_le _, Nat.le_refl _, by rw [ext_all]; rfl, fun j _ _ h => absurd h (Nat.not_lt_zero _)⟩⟩
theorem RkP.skip {s : ByteArray} {i f : Nat} {pre : List ByteArray} (h : RkP s i f pre) (hi : i < s.size) (hc : s[i] ≠ 44) : RkP s (i + 1) f pre := by
  obtain ⟨h1, ⟨a, b, c, d⟩ | ⟨a, b, c⟩⟩ := h
  · exact ⟨h1, .inl ⟨by omega, by omega, c, fun j hj h3 h4 => by
      by_cases e : j = i
      · subst e; exact hc
      · exact d j hj h3 (by omega)⟩⟩
  · omega
theorem RkP.part {s : ByteArray} {i f : Nat} {pre : List ByteArray} (h : RkP s i f pre) (hi : i ≤ s.size) (hc : ∀ h : i < s.size, s[i] = 44) (hs : (parseI (s.extract f i)).2 ≠ 3) :
    RkP s (i + 1) (i + 1) (pre ++ [s.extract f i]) := by
  obtain ⟨h1, ⟨a, b, c, d⟩ | ⟨a, b, c⟩⟩ := h
  · refine ⟨by rw [synK_snoc, h1]; simpa using hs, ?_⟩
    by_cases hlt : i < s.size
    · refine .inl ⟨hlt, Nat.le_refl _, ?_, fun j _ h3 h4 => by omega⟩
      rw [c, parts_at b hlt (hc hlt) d, List.append_assoc]
      rfl
    · obtain rfl : i = s.size := by omega
      exact .inr ⟨rfl, rfl, by rw [c, parts_end d]⟩
  · omega
theorem RkP.syn {s : ByteArray} {i f : Nat} {pre : List ByteArray} (h : RkP s i f pre) (hi : i ≤ s.size) (hc : ∀ h : i < s.size, s[i] = 44) (hs : (parseI (s.extract f i)).2 = 3) : synK (partsS 44 s) = true := by
  obtain ⟨h1, ⟨a, b, c, d⟩ | ⟨a, b, c⟩⟩ := h
  · have e : synK [s.extract f i] = true := by unfold synK; simp [hs]
    by_cases hlt : i < s.size
    · refine synK_prefix (pre := pre ++ [s.extract f i]) ?_ (by rw [synK_snoc, hs]; simp)
      rw [c, parts_at b hlt (hc hlt) d]
      exact ⟨partsS 44 (s.extract (i + 1) s.size), by simp⟩
    · obtain rfl : i = s.size := by omega
      rw [c, parts_end d, synK_snoc, hs]
      simp
  · omega
theorem RkP.stop {s : ByteArray} {i f : Nat} {pre : List ByteArray} (h : RkP s i f pre) (hi : ¬ i ≤ s.size) : partsS 44 s = pre ∧ synK pre = false := by
  obtain ⟨h1, ⟨a, b, c, d⟩ | ⟨a, b, c⟩⟩ := h
  · omega
  · exact ⟨c, h1⟩
theorem RkP.len {s : ByteArray} {i f : Nat} {pre : List ByteArray} (h : RkP s i f pre) : pre.length ≤ s.size + 1 ∧ (i ≤ s.size → f ≤ i) := by
  have hc := @partsS_count 44 s
  obtain ⟨h1, ⟨a, b, c, d⟩ | ⟨a, b, c⟩⟩ := h
  · rw [c, List.length_append] at hc
    exact ⟨by omega, fun _ => b⟩
  · rw [c] at hc
    exact ⟨by omega, fun h => by omega⟩

theorem wrap_64 (n : Int) : IntKind.i64.wrap n = wrap64 n := by
  rw [IntKind.wrap_i64]
  first
    | rw [wrap64]
    | (unfold wrap64; rfl)
    | (simp only [wrap64])
theorem ba_getc {s : ByteArray} {i : Nat} (h : i < s.size) (hc : s[i] = 44) : ((s[i].toNat : Int) != 44) = false := by rw [hc]; rfl
theorem ba_getn {s : ByteArray} {i : Nat} (h : i < s.size) (hc : s[i] ≠ 44) : ((s[i].toNat : Int) != 44) = true := by
  rw [bne_iff_ne]
  intro e
  apply hc
  apply UInt8.toNat_inj.1
  have : s[i].toNat = 44 := by omega
  rw [this]
  rfl

set_option maxHeartbeats 4000000 in
theorem refRkParse_own (s : ByteArray) (w : World) (hs : s.size ≤ 2000) : Calls Tryd.prog 28 #[.string s] w (RkPostF w (rankP s)) := by
  rcases Nat.eq_zero_or_pos s.size with h0 | hpos
  · obtain rfl := size_zero h0
    have HR := Lib.hid (show rankP ByteArray.empty = ([], 0) from rfl)
    have HX := Lib.hid (fun W => refRkRight_any [] none 0 W (by simp) (Cel.nil _ _))
    rw [show rankB [] = true from rfl] at HX
    generalize rankP ByteArray.empty = r at *
    go_enter Tryd.func28, Tryd.ntmps28
    go_wp2
    refine wp_loop_rounds 1 ?_
    rw [rounds_succ]
    go_wp2_with (go_at_call 58; refine (HX.out _).mono ?_; rintro e w1 ⟨rfl, rfl⟩)
    go_ret2
    exact ⟨none, 0, by rw [HR.out]; rfl, by rw [HR.out]; exact Cel.nil _ _, Below.refl _ _, fun _ e => by cases e⟩
  · have HREF := Lib.hid (@rankP_ref s hpos hs)
    have HSYN := Lib.hid (show synK (partsS 44 s) = true → rankP s = ([], 3) by intro h; unfold rankP; rw [if_neg (by omega), h]; rfl)
    have hpos2 : (0 : Int) < (s.size : Int) := by omega
    generalize rankP s = r at *
    go_enter Tryd.func28, Tryd.ntmps28
    go_wp2
    go_loopg [4, 5, 6, 7] (s.size + 1) (fun gg v4 v5 v6 v7 wr => ∃ (i f : Nat) (pre : List ByteArray), i ≤ s.size + 1 ∧ s.size + 1 - i ≤ gg ∧ v7 = .int .i64 i ∧ v5 = .int .i64 f ∧ v6 = .bool (wideR pre) ∧ Aside (RkP s i f pre) ∧
      Aside (wr.ownsRow w.heap.size 3 1 v4 pre.length ((valsR pre).map encI)) ∧ Aside (Below w.heap.size w wr))
    case atStart => exact ⟨0, 0, [], Nat.zero_le _, by omega, rfl, rfl, rfl, .start s, World.ownsRow_nil _ _ _ _, Below.refl _ _⟩
    case round =>
      obtain ⟨i, f, pre, hi1, hg, rfl, rfl, rfl, HP, HO, HB⟩ := hrel
      obtain ⟨ao, cap, rfl, hcel⟩ := Cel.of_owns HO.out
      obtain ⟨hpl, hfi⟩ := HP.out.len
      by_cases hi : i ≤ s.size
      · have hi2 : (i : Int) ≤ (s.size : Int) := by omega
        have hfi2 := hfi hi
        clear hfi hcel
        by_cases hcont : ∃ h : i < s.size, s[i] ≠ 44
        · obtain ⟨hlt, hne⟩ := hcont
          have hlt2 : (i : Int) < (s.size : Int) := by omega
          have hb := ba_getn hlt hne
          have HP2 := Lib.hid (HP.out.skip hlt hne)
          clear hne
          go_wp2
          go_roundg (s.size + 1 - (i + 1))
          case measure => omega
          case rel => exact ⟨i + 1, f, pre, by omega, by omega, by go_num, rfl, rfl, HP2.out, HO.out, HB.out⟩
        · have hc : ∀ h : i < s.size, s[i] = 44 := fun h => Classical.byContradiction fun e => hcont ⟨h, e⟩
          have hxs : (s.extract f i).size ≤ 2000 := by rw [ByteArray.size_extract]; omega
          have HI := Lib.hid (fun W => refParse_any (s.extract f i) W (by omega))
          have HSY := Lib.hid (fun h => HSYN.out (HP.out.syn hi hc h))
          have HPT := Lib.hid (fun h => HP.out.part hi hc h)
          have HWS := Lib.hid (wideR_snoc pre (s.extract f i))
          have HVS := Lib.hid (valsR_snoc pre (s.extract f i))
          have HLS := Lib.hid (show (pre ++ [s.extract f i]).length = pre.length + 1 by simp)
          clear hcont
          by_cases hlt : i < s.size
          · have hlt2 : (i : Int) < (s.size : Int) := by omega
            have hb := ba_getc hlt (hc hlt)
            clear hc
            rcases parseI_cases (s.extract f i) with h | h | ⟨v, h, v0, v1⟩
            · have HR := Lib.hid (HSY.out (by rw [h]))
              rw [h] at HI
              clear h
              go_wp2_with (go_at_call 40; refine (HI.out _).mono ?_; rintro e w1 ⟨rfl, rfl⟩)
              go_ret2
              exact ⟨none, 0, by rw [HR.out]; rfl, by rw [HR.out]; exact Cel.nil _ _, HB.out, fun _ e => by cases e⟩
            · have HP2 := Lib.hid (HPT.out (by rw [h]; decide))
              have HV2 := Lib.hid (show valsR (pre ++ [s.extract f i]) = valsR pre ++ [0] by rw [HVS.out, h]; rfl)
              rw [h] at HI
              cases hw : wideR pre with
              | true =>
                have HW2 := Lib.hid (show wideR (pre ++ [s.extract f i]) = true by rw [HWS.out, hw]; rfl)
                clear hw
                go_wp2_with (first
  | (go_at_call 40; refine (HI.out _).mono ?_; rintro e w1 ⟨rfl, rfl⟩)
  | (at_builtin; go_must ((with_reducible refine wpList_app w.heap.size 3 _ 1 8 elem_int Tryd.underlying23 (.slice ao pre.length cap) pre.length _ ⟨w1.heap.size, 0, none⟩ 1 1 [.int .i64 (0)] ?_ ?_ (HO.out.alloc _) (one_cell _ _ _) (one_int _) ⟨rfl, by decide, by omega, by omega, by have := HB.out.size; simp; omega⟩ ?_); (· rfl); (· rfl); intro g6 cap6 w6 hown hgrow hbl hat hlt6; (have HO6 := Lib.hid hown; have HB6 := Lib.hid hbl; clear hown hgrow hbl hat))))
                go_roundg (s.size + 1 - (i + 1))
                case measure => omega
                case rel => exact ⟨i + 1, i + 1, pre ++ [s.extract f i], by omega, by omega, by go_num, by go_num, by rw [HW2.out] <;> first | rfl | simp [*], HP2.out, by rw [HV2.out, HLS.out, List.map_append]; exact HO6.out, (HB.out.al _).trans HB6.out⟩
              | false =>
                have HW2 := Lib.hid (HWS.out.trans (by rw [hw, Bool.false_or]))
                rw [h] at HW2
                clear hw h
                go_wp2_with (first
  | (go_at_call 40; refine (HI.out _).mono ?_; rintro e w1 ⟨rfl, rfl⟩)
  | (at_builtin; go_must ((with_reducible refine wpList_app w.heap.size 3 _ 1 8 elem_int Tryd.underlying23 (.slice ao pre.length cap) pre.length _ ⟨w1.heap.size, 0, none⟩ 1 1 [.int .i64 (0)] ?_ ?_ (HO.out.alloc _) (one_cell _ _ _) (one_int _) ⟨rfl, by decide, by omega, by omega, by have := HB.out.size; simp; omega⟩ ?_); (· rfl); (· rfl); intro g6 cap6 w6 hown hgrow hbl hat hlt6; (have HO6 := Lib.hid hown; have HB6 := Lib.hid hbl; clear hown hgrow hbl hat))))
                go_roundg (s.size + 1 - (i + 1))
                case measure => omega
                case rel => exact ⟨i + 1, i + 1, pre ++ [s.extract f i], by omega, by omega, by go_num, by go_num, by rw [HW2.out] <;> first | rfl | simp [*], HP2.out, by rw [HV2.out, HLS.out, List.map_append]; exact HO6.out, (HB.out.al _).trans HB6.out⟩
            · have HP2 := Lib.hid (HPT.out (by rw [h]; simp))
              by_cases hv : 4611686018427387904 < v
              · have HV2 := Lib.hid (show valsR (pre ++ [s.extract f i]) = valsR pre ++ [wrap64 v] by rw [HVS.out, h, wrap_64])
                rw [h] at HI
                cases hw : wideR pre with
                | true =>
                  have HW2 := Lib.hid (show wideR (pre ++ [s.extract f i]) = true by rw [HWS.out, hw]; rfl)
                  clear hw
                  go_wp2_with (first
  | (go_at_call 40; refine (HI.out _).mono ?_; rintro e w1 ⟨rfl, rfl⟩)
  | (at_builtin; go_must ((with_reducible refine wpList_app w.heap.size 3 _ 1 8 elem_int Tryd.underlying23 (.slice ao pre.length cap) pre.length _ ⟨w1.heap.size, 0, none⟩ 1 1 [.int .i64 (wrap64 v)] ?_ ?_ (HO.out.alloc _) (one_cell _ _ _) (one_int _) ⟨rfl, by decide, by omega, by omega, by have := HB.out.size; simp; omega⟩ ?_); (· rfl); (· rfl); intro g6 cap6 w6 hown hgrow hbl hat hlt6; (have HO6 := Lib.hid hown; have HB6 := Lib.hid hbl; clear hown hgrow hbl hat))))
                  go_roundg (s.size + 1 - (i + 1))
                  case measure => omega
                  case rel => exact ⟨i + 1, i + 1, pre ++ [s.extract f i], by omega, by omega, by go_num, by go_num, by rw [HW2.out] <;> first | rfl | simp [*], HP2.out, by rw [HV2.out, HLS.out, List.map_append]; exact HO6.out, (HB.out.al _).trans HB6.out⟩
                | false =>
                  have HW2 := Lib.hid (HWS.out.trans (by rw [hw, Bool.false_or]))
                  rw [h] at HW2
                  clear hw h
                  go_wp2_with (first
  | (go_at_call 40; refine (HI.out _).mono ?_; rintro e w1 ⟨rfl, rfl⟩)
  | (at_builtin; go_must ((with_reducible refine wpList_app w.heap.size 3 _ 1 8 elem_int Tryd.underlying23 (.slice ao pre.length cap) pre.length _ ⟨w1.heap.size, 0, none⟩ 1 1 [.int .i64 (wrap64 v)] ?_ ?_ (HO.out.alloc _) (one_cell _ _ _) (one_int _) ⟨rfl, by decide, by omega, by omega, by have := HB.out.size; simp; omega⟩ ?_); (· rfl); (· rfl); intro g6 cap6 w6 hown hgrow hbl hat hlt6; (have HO6 := Lib.hid hown; have HB6 := Lib.hid hbl; clear hown hgrow hbl hat))))
                  go_roundg (s.size + 1 - (i + 1))
                  case measure => omega
                  case rel => exact ⟨i + 1, i + 1, pre ++ [s.extract f i], by omega, by omega, by go_num, by go_num, by rw [HW2.out] <;> first | rfl | simp [*], HP2.out, by rw [HV2.out, HLS.out, List.map_append]; exact HO6.out, (HB.out.al _).trans HB6.out⟩
              · have HV2 := Lib.hid (show valsR (pre ++ [s.extract f i]) = valsR pre ++ [v] by rw [HVS.out, h, show IntKind.i64.wrap v = v from IntWalk.i64_in _ (by omega)])
                rw [h] at HI
                cases hw : wideR pre with
                | true =>
                  have HW2 := Lib.hid (show wideR (pre ++ [s.extract f i]) = true by rw [HWS.out, hw]; rfl)
                  clear hw
                  go_wp2_with (first
  | (go_at_call 40; refine (HI.out _).mono ?_; rintro e w1 ⟨rfl, rfl⟩)
  | (at_builtin; go_must ((with_reducible refine wpList_app w.heap.size 3 _ 1 8 elem_int Tryd.underlying23 (.slice ao pre.length cap) pre.length _ ⟨w1.heap.size, 0, none⟩ 1 1 [.int .i64 (v)] ?_ ?_ (HO.out.alloc _) (one_cell _ _ _) (one_int _) ⟨rfl, by decide, by omega, by omega, by have := HB.out.size; simp; omega⟩ ?_); (· rfl); (· rfl); intro g6 cap6 w6 hown hgrow hbl hat hlt6; (have HO6 := Lib.hid hown; have HB6 := Lib.hid hbl; clear hown hgrow hbl hat))))
                  go_roundg (s.size + 1 - (i + 1))
                  case measure => omega
                  case rel => exact ⟨i + 1, i + 1, pre ++ [s.extract f i], by omega, by omega, by go_num, by go_num, by rw [HW2.out] <;> first | rfl | simp [*], HP2.out, by rw [HV2.out, HLS.out, List.map_append]; exact HO6.out, (HB.out.al _).trans HB6.out⟩
                | false =>
                  have HW2 := Lib.hid (HWS.out.trans (by rw [hw, Bool.false_or]))
                  rw [h] at HW2
                  clear hw h
                  go_wp2_with (first
  | (go_at_call 40; refine (HI.out _).mono ?_; rintro e w1 ⟨rfl, rfl⟩)
  | (at_builtin; go_must ((with_reducible refine wpList_app w.heap.size 3 _ 1 8 elem_int Tryd.underlying23 (.slice ao pre.length cap) pre.length _ ⟨w1.heap.size, 0, none⟩ 1 1 [.int .i64 (v)] ?_ ?_ (HO.out.alloc _) (one_cell _ _ _) (one_int _) ⟨rfl, by decide, by omega, by omega, by have := HB.out.size; simp; omega⟩ ?_); (· rfl); (· rfl); intro g6 cap6 w6 hown hgrow hbl hat hlt6; (have HO6 := Lib.hid hown; have HB6 := Lib.hid hbl; clear hown hgrow hbl hat))))
                  go_roundg (s.size + 1 - (i + 1))
                  case measure => omega
                  case rel => exact ⟨i + 1, i + 1, pre ++ [s.extract f i], by omega, by omega, by go_num, by go_num, by rw [HW2.out] <;> first | rfl | simp [*], HP2.out, by rw [HV2.out, HLS.out, List.map_append]; exact HO6.out, (HB.out.al _).trans HB6.out⟩
          · have hlt2 : ¬ (i : Int) < (s.size : Int) := by omega
            clear hc
            rcases parseI_cases (s.extract f i) with h | h | ⟨v, h, v0, v1⟩
            · have HR := Lib.hid (HSY.out (by rw [h]))
              rw [h] at HI
              clear h
              go_wp2_with (go_at_call 40; refine (HI.out _).mono ?_; rintro e w1 ⟨rfl, rfl⟩)
              go_ret2
              exact ⟨none, 0, by rw [HR.out]; rfl, by rw [HR.out]; exact Cel.nil _ _, HB.out, fun _ e => by cases e⟩
            · have HP2 := Lib.hid (HPT.out (by rw [h]; decide))
              have HV2 := Lib.hid (show valsR (pre ++ [s.extract f i]) = valsR pre ++ [0] by rw [HVS.out, h]; rfl)
              rw [h] at HI
              cases hw : wideR pre with
              | true =>
                have HW2 := Lib.hid (show wideR (pre ++ [s.extract f i]) = true by rw [HWS.out, hw]; rfl)
                clear hw
                go_wp2_with (first
  | (go_at_call 40; refine (HI.out _).mono ?_; rintro e w1 ⟨rfl, rfl⟩)
  | (at_builtin; go_must ((with_reducible refine wpList_app w.heap.size 3 _ 1 8 elem_int Tryd.underlying23 (.slice ao pre.length cap) pre.length _ ⟨w1.heap.size, 0, none⟩ 1 1 [.int .i64 (0)] ?_ ?_ (HO.out.alloc _) (one_cell _ _ _) (one_int _) ⟨rfl, by decide, by omega, by omega, by have := HB.out.size; simp; omega⟩ ?_); (· rfl); (· rfl); intro g6 cap6 w6 hown hgrow hbl hat hlt6; (have HO6 := Lib.hid hown; have HB6 := Lib.hid hbl; clear hown hgrow hbl hat))))
                go_roundg (s.size + 1 - (i + 1))
                case measure => omega
                case rel => exact ⟨i + 1, i + 1, pre ++ [s.extract f i], by omega, by omega, by go_num, by go_num, by rw [HW2.out] <;> first | rfl | simp [*], HP2.out, by rw [HV2.out, HLS.out, List.map_append]; exact HO6.out, (HB.out.al _).trans HB6.out⟩
              | false =>
                have HW2 := Lib.hid (HWS.out.trans (by rw [hw, Bool.false_or]))
                rw [h] at HW2
                clear hw h
                go_wp2_with (first
  | (go_at_call 40; refine (HI.out _).mono ?_; rintro e w1 ⟨rfl, rfl⟩)
  | (at_builtin; go_must ((with_reducible refine wpList_app w.heap.size 3 _ 1 8 elem_int Tryd.underlying23 (.slice ao pre.length cap) pre.length _ ⟨w1.heap.size, 0, none⟩ 1 1 [.int .i64 (0)] ?_ ?_ (HO.out.alloc _) (one_cell _ _ _) (one_int _) ⟨rfl, by decide, by omega, by omega, by have := HB.out.size; simp; omega⟩ ?_); (· rfl); (· rfl); intro g6 cap6 w6 hown hgrow hbl hat hlt6; (have HO6 := Lib.hid hown; have HB6 := Lib.hid hbl; clear hown hgrow hbl hat))))
                go_roundg (s.size + 1 - (i + 1))
                case measure => omega
                case rel => exact ⟨i + 1, i + 1, pre ++ [s.extract f i], by omega, by omega, by go_num, by go_num, by rw [HW2.out] <;> first | rfl | simp [*], HP2.out, by rw [HV2.out, HLS.out, List.map_append]; exact HO6.out, (HB.out.al _).trans HB6.out⟩
            · have HP2 := Lib.hid (HPT.out (by rw [h]; simp))
              by_cases hv : 4611686018427387904 < v
              · have HV2 := Lib.hid (show valsR (pre ++ [s.extract f i]) = valsR pre ++ [wrap64 v] by rw [HVS.out, h, wrap_64])
                rw [h] at HI
                cases hw : wideR pre with
                | true =>
                  have HW2 := Lib.hid (show wideR (pre ++ [s.extract f i]) = true by rw [HWS.out, hw]; rfl)
                  clear hw
                  go_wp2_with (first
  | (go_at_call 40; refine (HI.out _).mono ?_; rintro e w1 ⟨rfl, rfl⟩)
  | (at_builtin; go_must ((with_reducible refine wpList_app w.heap.size 3 _ 1 8 elem_int Tryd.underlying23 (.slice ao pre.length cap) pre.length _ ⟨w1.heap.size, 0, none⟩ 1 1 [.int .i64 (wrap64 v)] ?_ ?_ (HO.out.alloc _) (one_cell _ _ _) (one_int _) ⟨rfl, by decide, by omega, by omega, by have := HB.out.size; simp; omega⟩ ?_); (· rfl); (· rfl); intro g6 cap6 w6 hown hgrow hbl hat hlt6; (have HO6 := Lib.hid hown; have HB6 := Lib.hid hbl; clear hown hgrow hbl hat))))
                  go_roundg (s.size + 1 - (i + 1))
                  case measure => omega
                  case rel => exact ⟨i + 1, i + 1, pre ++ [s.extract f i], by omega, by omega, by go_num, by go_num, by rw [HW2.out] <;> first | rfl | simp [*], HP2.out, by rw [HV2.out, HLS.out, List.map_append]; exact HO6.out, (HB.out.al _).trans HB6.out⟩
                | false =>
                  have HW2 := Lib.hid (HWS.out.trans (by rw [hw, Bool.false_or]))
                  rw [h] at HW2
                  clear hw h
                  go_wp2_with (first
  | (go_at_call 40; refine (HI.out _).mono ?_; rintro e w1 ⟨rfl, rfl⟩)
  | (at_builtin; go_must ((with_reducible refine wpList_app w.heap.size 3 _ 1 8 elem_int Tryd.underlying23 (.slice ao pre.length cap) pre.length _ ⟨w1.heap.size, 0, none⟩ 1 1 [.int .i64 (wrap64 v)] ?_ ?_ (HO.out.alloc _) (one_cell _ _ _) (one_int _) ⟨rfl, by decide, by omega, by omega, by have := HB.out.size; simp; omega⟩ ?_); (· rfl); (· rfl); intro g6 cap6 w6 hown hgrow hbl hat hlt6; (have HO6 := Lib.hid hown; have HB6 := Lib.hid hbl; clear hown hgrow hbl hat))))
                  go_roundg (s.size + 1 - (i + 1))
                  case measure => omega
                  case rel => exact ⟨i + 1, i + 1, pre ++ [s.extract f i], by omega, by omega, by go_num, by go_num, by rw [HW2.out] <;> first | rfl | simp [*], HP2.out, by rw [HV2.out, HLS.out, List.map_append]; exact HO6.out, (HB.out.al _).trans HB6.out⟩
              · have HV2 := Lib.hid (show valsR (pre ++ [s.extract f i]) = valsR pre ++ [v] by rw [HVS.out, h, show IntKind.i64.wrap v = v from IntWalk.i64_in _ (by omega)])
                rw [h] at HI
                cases hw : wideR pre with
                | true =>
                  have HW2 := Lib.hid (show wideR (pre ++ [s.extract f i]) = true by rw [HWS.out, hw]; rfl)
                  clear hw
                  go_wp2_with (first
  | (go_at_call 40; refine (HI.out _).mono ?_; rintro e w1 ⟨rfl, rfl⟩)
  | (at_builtin; go_must ((with_reducible refine wpList_app w.heap.size 3 _ 1 8 elem_int Tryd.underlying23 (.slice ao pre.length cap) pre.length _ ⟨w1.heap.size, 0, none⟩ 1 1 [.int .i64 (v)] ?_ ?_ (HO.out.alloc _) (one_cell _ _ _) (one_int _) ⟨rfl, by decide, by omega, by omega, by have := HB.out.size; simp; omega⟩ ?_); (· rfl); (· rfl); intro g6 cap6 w6 hown hgrow hbl hat hlt6; (have HO6 := Lib.hid hown; have HB6 := Lib.hid hbl; clear hown hgrow hbl hat))))
                  go_roundg (s.size + 1 - (i + 1))
                  case measure => omega
                  case rel => exact ⟨i + 1, i + 1, pre ++ [s.extract f i], by omega, by omega, by go_num, by go_num, by rw [HW2.out] <;> first | rfl | simp [*], HP2.out, by rw [HV2.out, HLS.out, List.map_append]; exact HO6.out, (HB.out.al _).trans HB6.out⟩
                | false =>
                  have HW2 := Lib.hid (HWS.out.trans (by rw [hw, Bool.false_or]))
                  rw [h] at HW2
                  clear hw h
                  go_wp2_with (first
  | (go_at_call 40; refine (HI.out _).mono ?_; rintro e w1 ⟨rfl, rfl⟩)
  | (at_builtin; go_must ((with_reducible refine wpList_app w.heap.size 3 _ 1 8 elem_int Tryd.underlying23 (.slice ao pre.length cap) pre.length _ ⟨w1.heap.size, 0, none⟩ 1 1 [.int .i64 (v)] ?_ ?_ (HO.out.alloc _) (one_cell _ _ _) (one_int _) ⟨rfl, by decide, by omega, by omega, by have := HB.out.size; simp; omega⟩ ?_); (· rfl); (· rfl); intro g6 cap6 w6 hown hgrow hbl hat hlt6; (have HO6 := Lib.hid hown; have HB6 := Lib.hid hbl; clear hown hgrow hbl hat))))
                  go_roundg (s.size + 1 - (i + 1))
                  case measure => omega
                  case rel => exact ⟨i + 1, i + 1, pre ++ [s.extract f i], by omega, by omega, by go_num, by go_num, by rw [HW2.out] <;> first | rfl | simp [*], HP2.out, by rw [HV2.out, HLS.out, List.map_append]; exact HO6.out, (HB.out.al _).trans HB6.out⟩
      · obtain ⟨e1, e2⟩ := HP.out.stop hi
        have hi2 : ¬ (i : Int) ≤ (s.size : Int) := by omega
        rw [e1] at HREF
        have HRF := Lib.hid (HREF.out e2)
        have HCL := Lib.hid hcel
        have HVL := Lib.hid (valsR_length pre)
        clear hcel e1 e2 HREF hfi HP HSYN
        cases hw : wideR pre with
        | true =>
          have HR := Lib.hid (show r = ([], 2) by rw [HRF.out, hw]; rfl)
          clear hw HRF
          go_wp2
          go_ret2
          exact ⟨none, 0, by rw [HR.out]; rfl, by rw [HR.out]; exact Cel.nil _ _, HB.out, fun _ e => by cases e⟩
        | false =>
          have HX := Lib.hid (fun W h => refRkRight_any (valsR pre) ao cap W (by rw [HVL.out]; omega) h)
          rw [HVL.out] at HX
          cases hr : rankB (valsR pre) with
          | false =>
            have HR := Lib.hid (show r = ([], 2) by rw [HRF.out, hw, hr]; rfl)
            rw [hr] at HX
            clear hw HRF hr
            go_wp2_with (go_at_call 58; refine (HX.out _ HCL.out).mono ?_; rintro e w1 ⟨rfl, rfl⟩)
            go_ret2
            exact ⟨none, 0, by rw [HR.out]; rfl, by rw [HR.out]; exact Cel.nil _ _, HB.out, fun _ e => by cases e⟩
          | true =>
            have HR := Lib.hid (show r = (valsR pre, 0) by rw [HRF.out, hw, hr]; rfl)
            rw [hr] at HX
            clear hw HRF hr
            go_wp2_with (go_at_call 58; refine (HX.out _ HCL.out).mono ?_; rintro e w1 ⟨rfl, rfl⟩)
            go_ret2
            exact ⟨ao, cap, by rw [HR.out, HVL.out]; rfl, by rw [HR.out]; exact HCL.out, HB.out, fun x h => by subst h; exact (HO.out.lt x.block rfl).1⟩

theorem refRkParse_any (s : ByteArray) (w : World) (hs : s.size ≤ 2000) : Calls Tryd.prog 28 #[.string s] w (RkPost w (rankP s)) :=
  (refRkParse_own s w hs).mono fun _ _ ⟨ao, cap, h1, h2, h3, _⟩ => ⟨ao, cap, h1, h2, h3⟩

end Go.Proofs.YtelcmkccfjdmjaaDoor
