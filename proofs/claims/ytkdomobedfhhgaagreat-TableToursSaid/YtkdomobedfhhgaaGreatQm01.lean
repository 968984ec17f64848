/-
  Walks: the library's slices.Max at weights, table.Center; the reference's Row, Center and Tour (law 25).
  Walks: table.Center; the reference's Center and Tour (law 25); why a fault.
  Walks: the reference's Center and Tour (law 25); why a fault.
-/
import Derived.Test.YtkdomobedfhhgaaGreatProg
import Derived.Test.YtkdomobedfhhgaaGreatQk03
import Derived.Test.YtkdomobedfhhgaaGreatQc02
import Derived.Deep.CutRange
set_option linter.unusedVariables false
set_option linter.unusedSimpArgs false
set_option linter.unnecessarySimpa false
section
namespace Go.Proofs.YtkdomobedfhhgaaGreat
open Go Go.Proofs Go.RowKit Go.Shelf Go.Proofs.YtkdomobedfhhgaaGreat.Hp Go.Proofs.YtkdomobedfhhgaaGreat.Ch

theorem elem_u64q : Elem Tryz.prog 34 (.int .u64 0) 1 8 := ⟨by kernel_rfl, rfl, by decide⟩
/-- the greatest of weights -/
def maxV (l : List Int) : Int := l.foldl max 0
theorem maxV_take {l : List Int} {k : Nat} (h : k < l.length) : maxV (l.take (k + 1)) = max (maxV (l.take k)) l[k] := by
  unfold maxV
  rw [List.take_succ_eq_append_getElem h, List.foldl_append]
  rfl
theorem maxV_in {B : Int} (hB : 0 ≤ B) : ∀ {l : List Int}, (∀ x ∈ l, 0 ≤ x ∧ x ≤ B) → 0 ≤ maxV l ∧ maxV l ≤ B := by
  intro l
  have key : ∀ (l : List Int) (m : Int), 0 ≤ m → m ≤ B → (∀ x ∈ l, 0 ≤ x ∧ x ≤ B) → 0 ≤ l.foldl max m ∧ l.foldl max m ≤ B := by
    intro l
    induction l with
    | nil => exact fun m h1 h2 _ => ⟨h1, h2⟩
    | cons x r ih =>
      intro m h1 h2 h
      have := h x (by simp)
      exact ih _ (by omega) (by omega) (fun y hy => h y (by simp [hy]))
  exact key l 0 (Int.le_refl _) hB

set_option maxHeartbeats 1000000 in
theorem max_any (l : List Int) (ao : Option Addr) (cap : Nat) (w : World) (hc : Cel w ao (l.map encW)) (hl : l.length ≤ 1000000) (hl0 : 0 < l.length) (hx : ∀ x ∈ l, 0 ≤ x) :
    Calls Tryz.prog 94 #[.slice ao l.length cap] w fun e w' => e = .returned (.int .u64 (maxV l)) ∧ w = w' := by
  have HC := Lib.hid hc
  have hl2 : (l.length : Int) ≤ 1000000 := by omega
  have hl1 : ((l.length : Int) < 1) = False := by simp; omega
  have HL0 := Lib.hid hl0
  obtain ⟨b, o, hao, y0⟩ := hc.at hl0
  subst hao
  have HM1 := Lib.hid (show l[0] = maxV (l.take 1) by
    have := maxV_take hl0
    rw [this]
    have h1 := hx _ (List.getElem_mem hl0)
    simp [maxV]
    omega)
  have HT := Lib.hid (fun k (h : k < l.length) => maxV_take h)
  have HTL := Lib.hid (show l.take l.length = l from List.take_length)
  generalize hz : l[0] = x0 at *
  clear hc hx hz hl0
  simp only [Nat.add_zero] at y0
  go_enter Tryz.func94, Tryz.ntmps94
  go_wp2
  go_loopg [4, 3] l.length (fun gg v4 v3 wr => ∃ k : Nat, k ≤ l.length ∧ l.length - k ≤ gg ∧ v4 = .int .i64 (k : Int) ∧ v3 = .int .u64 (maxV (l.take k)) ∧ wr = w)
  case atStart => exact ⟨1, HL0.out, by omega, rfl, by rw [← HM1.out], rfl⟩
  case round =>
    obtain ⟨k, hk, hgg, rfl, rfl, rfl⟩ := hrel
    by_cases hlt : k < l.length
    · have hlt3 : (k : Int) < (l.length : Int) := by omega
      have hk0 : (0 : Int) ≤ (k : Int) := by omega
      obtain ⟨_, _, e, z0⟩ := HC.out.at hlt
      cases e
      have HTK := Lib.hid (HT.out k hlt)
      generalize l[k] = x at *
      generalize maxV (l.take k) = m at *
      go_wp2
      go_roundg (l.length - (k + 1))
      case measure => omega
      case rel => exact ⟨k + 1, by omega, Nat.le_refl _, by go_num, by rw [HTK.out], rfl⟩
    · obtain rfl : k = l.length := by omega
      rw [HTL.out]
      go_wp2
      go_ret
      exact ⟨rfl, rfl⟩

/-- the reference's row -/
def RowOut (es : List EdgeD) (s : Int) (tl : List Int) (w : World) (e : Ending) (w' : World) : Prop :=
  ∃ ao cap, e = .returned (.slice ao tl.length cap) ∧ Cel w' ao ((tl.map (distV es s)).map encW) ∧ (∀ t ∈ tl, FarV (arcG es) s t (distV es s t)) ∧ Below w.heap.size w w'
set_option maxRecDepth 100000 in
set_option maxHeartbeats 2000000 in
theorem refRow_any (n s : Nat) (es : List EdgeD) (ao : Option Addr) (cap : Nat) (lo : Option Addr) (lc : Nat) (tl : List Int) (w : World) (hg : rightG ⟨(n : Int), es⟩ = 0) (hn : n ≤ 12) (hes : es.length ≤ 40) (hs : s < n) (hc : Cel w ao (flat es)) (hlc : Cel w lo (tl.map encI)) (htl : tl.length ≤ 60) (hno : ∀ t ∈ tl, nodeN n t)
    (hA : ∀ u v w, arcG es u v w → 1 ≤ w) :
    Calls Tryz.prog 62 #[.agg #[.int .i64 (n : Int), .slice ao es.length cap], .int .i64 (s : Int), .slice lo tl.length lc] w (RowOut es (s : Int) tl w) := by
  obtain ⟨W, hW⟩ : ∃ W, W = w.alloc (Obj.cells #[.int .i64 (n : Int), .slice ao es.length cap] 24) := ⟨_, rfl⟩
  have hbw : Below w.heap.size w W := by rw [hW]; exact Below.of_al _ _
  have c0 : W.cell? ⟨w.heap.size, 0, none⟩ = some (.int .i64 (n : Int)) := by rw [hW]; go_simp
  have c1 : W.cell? ⟨w.heap.size, 1, none⟩ = some (.slice ao es.length cap) := by rw [hW]; go_simp
  have HW := Lib.hid hW
  have HB := Lib.hid hbw
  have HAL := Lib.hid (refAll_any n s es ao none cap 0 false [] W hg hn hes hs (by simp) (hc.go hbw) (Cel.nil _ _))
  have HLC := Lib.hid (hlc.go hbw)
  have HNO := Lib.hid hno
  have HAA := Lib.hid hA
  have htl2 : (tl.length : Int) ≤ 60 := by omega
  have hn2 : (n : Int) ≤ 12 := by omega
  have HTL := Lib.hid htl
  unfold AllPost at HAL
  clear hW hbw hc hlc hno hA htl
  go_enter Tryz.func62, Tryz.ntmps62
  go_upto_region 1 with (fail)
  rw [← HW.out]
  go_upto_region 2 with (go_at_call 74; refine HAL.out.mono ?_; rintro e w1 ⟨b, d, rfl, k1, k2, k3, k4⟩; (have HC1 := Lib.hid k1); (have HB1 := Lib.hid k2); (have HI1 := Lib.hid k4); clear k1 k2 k3 k4)
  have HFV := Lib.hid (fun (v : Int) (hv : nodeN n v) => (AllIs.far (es := es) (n := n) (s := (s : Int)) (back := false) (fun u v w h => HAA.out u v w h) HI1.out hv : FarV (arcG es) (s : Int) v (gD d v)))
  have hdl : d.length = n := HI1.out.1
  have HDL := Lib.hid hdl
  have HR0 := Lib.hid (World.ownsRow_nil w1 w1.heap.size 34 1)
  clear c0 c1 hdl
  go_wp2
  go_loopg [9, 8] tl.length (fun gg v9 v8 wr => ∃ k : Nat, k ≤ tl.length ∧ tl.length - k ≤ gg ∧ v9 = .int .i64 (k : Int) ∧ Aside (wr.ownsRow w1.heap.size 34 1 v8 k (((tl.take k).map (distV es (s : Int))).map encW)) ∧ Aside (Below w1.heap.size w1 wr))
  case atStart => exact ⟨0, Nat.zero_le _, by omega, rfl, HR0.out, Below.refl _ _⟩
  case round =>
    obtain ⟨k, hk, hgg, rfl, HR, HBW⟩ := hrel
    by_cases hlt : k < tl.length
    · have hlt3 : (k : Int) < (tl.length : Int) := by omega
      have hk0 : (0 : Int) ≤ (k : Int) := by omega
      obtain ⟨lb, lof, hao, y0⟩ := (HLC.out.go (HB1.out.st HBW.out)).at hlt
      subst hao
      have hnd := HNO.out _ (List.getElem_mem hlt)
      obtain ⟨t, htt⟩ : ∃ t : Nat, tl[k] = (t : Int) := ⟨tl[k].toNat, by have := hnd.1; omega⟩
      rw [htt] at y0 hnd
      have htn : t < n := by have := hnd.2; omega
      have htn2 : (t : Int) < (n : Int) := by omega
      have ht0 : (0 : Int) ≤ (t : Int) := by omega
      have hq := (HFV.out _ hnd).eqD
      have hdt := (HC1.out.go HBW.out) t (.int .u64 (distV es (s : Int) (t : Int))) (by
        rw [List.getElem?_map, ← hq]
        unfold gD
        simp [List.getD, show t < d.length by rw [HDL.out]; exact htn, encW])
      obtain ⟨_, _, e, z0⟩ := hdt
      cases e
      rw [Nat.zero_add] at z0
      have HTK := Lib.hid (show ((tl.take (k + 1)).map (distV es (s : Int))).map encW = ((tl.take k).map (distV es (s : Int))).map encW ++ [.int .u64 (distV es (s : Int) (t : Int))] by
        rw [List.take_succ_eq_append_getElem hlt, List.map_append, List.map_append, htt]; rfl)
      have hz := HBW.out.size
      have HZ := Lib.hid (And.intro hk hz)
      clear hnd hq htt hz
      generalize distV es (s : Int) (t : Int) = x at *
      go_upto_region 5 with (at_builtin; go_must (refine wpList_app w1.heap.size 34 _ 1 8 elem_u64q Tryz.underlying41 u8 k _ ⟨wr.heap.size, 0, none⟩ 1 1 [.int .u64 x] rfl rfl (World.ownsRow.alloc HR.out _) (cell_one_new _ _ _) (one_cells rfl) ⟨rfl, by decide, (by have := HZ.out.1; omega), (by have := HZ.out.1; omega), (by have := HZ.out.2; simp; omega)⟩ ?_); intro g7 cap7 w7 hown hgr hbl hat hlt7; (have HR7 := Lib.hid hown); (have HB7 := Lib.hid ((HBW.out.al _).trans hbl)); clear hown hgr hbl hat hlt7)
      go_wp2
      go_roundg (tl.length - (k + 1))
      case measure => omega
      case rel => exact ⟨k + 1, by omega, Nat.le_refl _, by go_num, by rw [HTK.out]; exact HR7.out, HB7.out⟩
    · obtain rfl : k = tl.length := by omega
      obtain ⟨ao8, cap8, e8, hc8⟩ := Cel.of_owns HR.out
      subst e8
      rw [List.take_length] at hc8
      have HC8 := Lib.hid hc8
      go_wp2
      go_ret
      exact ⟨ao8, cap8, rfl, HC8.out, (fun t ht => by have h := HFV.out _ (HNO.out t ht); have h2 := h.eqD; rw [h2] at h; exact h), HB.out.st (HB1.out.st HBW.out)⟩

end Go.Proofs.YtkdomobedfhhgaaGreat
end

section
namespace Go.Proofs.YtkdomobedfhhgaaGreat
open Go Go.Proofs Go.RowKit Go.Shelf Go.Proofs.YtkdomobedfhhgaaGreat.Hp Go.Proofs.YtkdomobedfhhgaaGreat.Ch

/-- the midst of the first k -/
def cenF (D : Int → Int → Int) (l : List Int) : Nat → Int × Int
  | 0 => (-1, 4611686018427387904)
  | k + 1 => if maxV (l.map (D (l.getD k 0))) < (cenF D l k).2 then ((k : Int), maxV (l.map (D (l.getD k 0)))) else cenF D l k
theorem cenF_in (D : Int → Int → Int) (l : List Int) (hx : ∀ k, 0 ≤ maxV (l.map (D (l.getD k 0)))) : ∀ k, ((cenF D l k).1 = -1 ∨ (0 ≤ (cenF D l k).1 ∧ (cenF D l k).1 < (k : Int))) ∧ 0 ≤ (cenF D l k).2 ∧ (cenF D l k).2 ≤ 4611686018427387904
  | 0 => ⟨.inl rfl, by simp [cenF], by simp [cenF]⟩
  | k + 1 => by
    obtain ⟨h1, h2, h3⟩ := cenF_in D l hx k
    have h4 := hx k
    unfold cenF
    split
    · rename_i h
      refine ⟨.inr ⟨?_, ?_⟩, ?_, ?_⟩ <;> simp only <;> omega
    · refine ⟨?_, h2, h3⟩
      rcases h1 with h1 | h1
      · exact .inl h1
      · exact .inr ⟨h1.1, by omega⟩

/-- what Center gives -/
def CenterPost (es : List EdgeD) (l : List Int) (w : World) (e : Ending) (w' : World) : Prop :=
  e = .returned (.tuple #[.int .i64 (cenF (distV es) l l.length).1, .int .u64 (if (cenF (distV es) l l.length).1 = -1 then 0 else (cenF (distV es) l l.length).2), .bool (decide ((cenF (distV es) l l.length).1 ≠ -1))]) ∧ (∀ i j (hi : i < l.length) (hj : j < l.length), DistT es l[i] l[j]) ∧ Below w.heap.size w w'

set_option maxRecDepth 100000 in
set_option maxHeartbeats 4000000 in
theorem center_any (hb n : Nat) (es : List EdgeD) (R : List Int) (S : List SC) (ro : List Int) (ao : Option Addr) (cap : Nat) (l : List Int) (w : World) (h : BH w hb n es R S ro) (hl : l.length ≤ 60) (hc : Cel w ao (l.map encI)) (hn : ∀ v ∈ l, nodeN n v) :
    Calls Tryz.prog 43 #[.pointer (some ⟨hb, 0, none⟩), .slice ao l.length cap] w (CenterPost es l w) := by
  have HOF := Lib.hid (of_any hb n es R S ro l l ao ao cap cap w h hc hc hl hl hn hn)
  have hl2 : (l.length : Int) ≤ 60 := by omega
  have hl0 : (0 : Int) ≤ (l.length : Int) := by omega
  have HL := Lib.hid hl
  clear h hc hn hl
  go_enter Tryz.func43, Tryz.ntmps43
  go_upto_region 2 with (go_at_call 38; refine HOF.out.mono ?_; rintro e w1 ht; obtain ⟨bo, bc, rfl, k1, k4⟩ := of_rows ht; (have HR1 := Lib.hid k1); (have HB1 := Lib.hid k4); clear ht k1 k4)
  have HDT := Lib.hid (show ∀ i j (hi : i < l.length) (hj : j < l.length), DistT es l[i] l[j] from fun i j hi hj => by
    obtain ⟨b, o, D, e, h1, h2⟩ := HR1.out i hi
    exact (h2 j hj).2)
  have HXX := Lib.hid (show ∀ k, k < l.length → ∀ x ∈ l.map (distV es (l.getD k 0)), 0 ≤ x from fun k hk x hx => by
    obtain ⟨t, ht, rfl⟩ := List.mem_map.1 hx
    obtain ⟨j, hj, rfl⟩ := List.getElem_of_mem ht
    have := HDT.out k j hk hj
    rw [show l.getD k 0 = l[k] by simp [List.getD, hk]]
    exact this.in.1)
  go_wp2
  go_loopg [23, 9, 10] l.length (fun gg v23 v9 v10 wr => ∃ k : Nat, k ≤ l.length ∧ l.length - k ≤ gg ∧ v23 = .int .i64 (k : Int) ∧ v9 = .int .i64 (cenF (distV es) l k).1 ∧ v10 = .int .u64 (cenF (distV es) l k).2 ∧ wr = w1)
  case atStart => exact ⟨0, Nat.zero_le _, by omega, rfl, rfl, rfl, rfl⟩
  case round =>
    obtain ⟨k, hk, hgg, rfl, rfl, rfl, rfl⟩ := hrel
    by_cases hlt : k < l.length
    · have hlt3 : (k : Int) < (l.length : Int) := by omega
      have hk0 : (0 : Int) ≤ (k : Int) := by omega
      obtain ⟨rb, rof, D, hbo, c0, hrow⟩ := HR1.out k hlt
      subst hbo
      have HCE := Lib.hid (show Cel wr (some ⟨D, 0, none⟩) ((l.map (distV es (l.getD k 0))).map encW) from fun j u hu => by
        have hj : j < l.length := by
          have := (List.getElem?_eq_some_iff.1 hu).1
          simpa using this
        rw [List.getElem?_map, List.getElem?_map, List.getElem?_eq_getElem hj] at hu
        cases hu
        have h9 := (hrow j hj).1
        refine ⟨D, 0, rfl, ?_⟩
        rw [Nat.zero_add, h9, show l.getD k 0 = l[k] by simp [List.getD, hlt]])
      have HMX := Lib.hid (max_any (l.map (distV es (l.getD k 0))) (some ⟨D, 0, none⟩) l.length wr HCE.out (by simp; have := HL.out; omega) (by simp; omega) (HXX.out k hlt))
      rw [List.length_map] at HMX
      have HCN := Lib.hid (show cenF (distV es) l (k + 1) = if maxV (l.map (distV es (l.getD k 0))) < (cenF (distV es) l k).2 then ((k : Int), maxV (l.map (distV es (l.getD k 0)))) else cenF (distV es) l k from rfl)
      clear hrow HCE
      generalize maxV (l.map (distV es (l.getD k 0))) = m at *
      generalize cenF (distV es) l k = c at *
      obtain ⟨cb, cm⟩ := c
      simp only at HCN ⊢
      by_cases hlm : m < cm
      · have HC2 := Lib.hid (show cenF (distV es) l (k + 1) = ((k : Int), m) by rw [HCN.out, if_pos hlm])
        have hg : decide (m < cm) = true := by simpa using hlm
        clear HCN hlm
        go_wp2_with (go_at_call 94; refine HMX.out.mono ?_; rintro e w2 ⟨rfl, rfl⟩)
        go_roundg (l.length - (k + 1))
        case measure => omega
        case rel => exact ⟨k + 1, by omega, Nat.le_refl _, by go_num, by rw [HC2.out], by rw [HC2.out], rfl⟩
      · have HC2 := Lib.hid (show cenF (distV es) l (k + 1) = (cb, cm) by rw [HCN.out, if_neg hlm])
        have hg : decide (m < cm) = false := by simpa using hlm
        clear HCN hlm
        go_wp2_with (go_at_call 94; refine HMX.out.mono ?_; rintro e w2 ⟨rfl, rfl⟩)
        go_roundg (l.length - (k + 1))
        case measure => omega
        case rel => exact ⟨k + 1, by omega, Nat.le_refl _, by go_num, by rw [HC2.out], by rw [HC2.out], rfl⟩
    · obtain rfl : k = l.length := by omega
      have HPO := Lib.hid (fun e' (h : e' = Ending.returned (.tuple #[.int .i64 (cenF (distV es) l l.length).1, .int .u64 (if (cenF (distV es) l l.length).1 = -1 then 0 else (cenF (distV es) l l.length).2), .bool (decide ((cenF (distV es) l l.length).1 ≠ -1))])) => show CenterPost es l w e' wr from ⟨h, HDT.out, HB1.out⟩)
      generalize cenF (distV es) l l.length = c at *
      obtain ⟨cb, cm⟩ := c
      simp only at HPO ⊢
      by_cases e1 : cb = -1
      · subst e1
        go_wp2
        refine bodyPost_ret (v := .tuple #[.int .i64 (-1), .int .u64 0, .bool false]) (by simp [results, Tryz.results43, go_sem]; try rfl) rfl ?_
        exact HPO.out _ (by simp)
      · have hne : (cb == -1) = false := by simpa using e1
        have HNE := Lib.hid e1
        clear e1
        go_wp2
        refine bodyPost_ret (v := .tuple #[.int .i64 cb, .int .u64 cm, .bool true]) (by simp [results, Tryz.results43, go_sem]; try rfl) rfl ?_
        exact HPO.out _ (by simp [HNE.out])

end Go.Proofs.YtkdomobedfhhgaaGreat
end

section
namespace Go.Proofs.YtkdomobedfhhgaaGreat
open Go Go.Proofs Go.RowKit Go.Shelf Go.Proofs.YtkdomobedfhhgaaGreat.Hp Go.Proofs.YtkdomobedfhhgaaGreat.Ch

def RowV (es : List EdgeD) (s : Int) (l : List Int) (v : Value) (W : World) : Prop := ∃ ao cap, v = .slice ao l.length cap ∧ Cel W ao ((l.map (distV es s)).map encW)
theorem RowV.go {es : List EdgeD} {s : Int} {l : List Int} {v : Value} {W W' : World} (h : RowV es s l v W) (hb : Below W.heap.size W W') : RowV es s l v W' := let ⟨a, c, h1, h2⟩ := h; ⟨a, c, h1, h2.go hb⟩
/-- what the operations give where the reference asks for a row -/
def rcR (gv lv p : Value) (i s : Int) (es : List EdgeD) (l : List Int) : Nat → Value → World → Prop
  | 0, v, _ => v = gv
  | 1, v, _ => v = lv
  | 2, v, _ => v = .int .i64 i
  | 3, v, _ => v = p
  | 4, v, _ => v = .int .i64 s
  | 5, v, _ => v = lv
  | 6, v, W => RowV es s l v W
  | 7, v, W => RowV es s l v W
  | _, _, _ => True
theorem rcR_go {gv lv p : Value} {i s : Int} {es : List EdgeD} {l : List Int} : ∀ (k : Nat) (v : Value) (w w' : World), Below w.heap.size w w' → rcR gv lv p i s es l k v w → rcR gv lv p i s es l k v w'
  | 0, _, _, _, _, h | 1, _, _, _, _, h | 2, _, _, _, _, h | 3, _, _, _, _, h | 4, _, _, _, _, h | 5, _, _, _, _, h => h
  | 6, _, _, _, hb, h | 7, _, _, _, hb, h => RowV.go h hb
  | _ + 8, _, _, _, _, _ => trivial

set_option maxRecDepth 100000 in
set_option maxHeartbeats 4000000 in
theorem refCenter_any (n : Nat) (es : List EdgeD) (ao : Option Addr) (cap : Nat) (lo : Option Addr) (lc : Nat) (l : List Int) (w : World) (hg : rightG ⟨(n : Int), es⟩ = 0) (hn : n ≤ 12) (hes : es.length ≤ 40) (hc : Cel w ao (flat es)) (hlc : Cel w lo (l.map encI)) (hl : l.length ≤ 60) (hno : ∀ t ∈ l, nodeN n t)
    (hA : ∀ u v w, arcG es u v w → 1 ≤ w) :
    Calls Tryz.prog 45 #[.agg #[.int .i64 (n : Int), .slice ao es.length cap], .slice lo l.length lc] w fun e w' => e = .returned (.tuple #[.int .i64 (cenF (distV es) l l.length).1, .int .u64 (cenF (distV es) l l.length).2]) ∧ Below w.heap.size w w' := by
  obtain ⟨W, hW⟩ : ∃ W, W = w.alloc (Obj.cells #[.int .i64 (n : Int), .slice ao es.length cap] 24) := ⟨_, rfl⟩
  have hbw : Below w.heap.size w W := by rw [hW]; exact Below.of_al _ _
  have c0 : W.cell? ⟨w.heap.size, 0, none⟩ = some (.int .i64 (n : Int)) := by rw [hW]; go_simp
  have c1 : W.cell? ⟨w.heap.size, 1, none⟩ = some (.slice ao es.length cap) := by rw [hW]; go_simp
  have HW := Lib.hid hW
  have HB := Lib.hid hbw
  have HRO := Lib.hid (fun W' (hz : Below W.heap.size W W') s hs => refRow_any n s es ao cap lo lc l W' hg hn hes hs ((hc.go hbw).go hz) ((hlc.go hbw).go hz) hl hno hA)
  have HLC := Lib.hid (hlc.go hbw)
  have HNO := Lib.hid hno
  have hl2 : (l.length : Int) ≤ 60 := by omega
  have HCC := Lib.hid (And.intro c0 c1)
  clear hW hbw hc hlc hno hA hl c0 c1
  go_enter Tryz.func45, Tryz.ntmps45
  go_upto_region 1 with (fail)
  rw [← HW.out]
  go_wp2
  go_loopg [8, 6, 7] l.length (fun gg v8 v6 v7 wr => ∃ k : Nat, k ≤ l.length ∧ l.length - k ≤ gg ∧ v8 = .int .i64 (k : Int) ∧ v6 = .int .i64 (cenF (distV es) l k).1 ∧ v7 = .int .u64 (cenF (distV es) l k).2 ∧ Aside (Below W.heap.size W wr))
  case atStart => exact ⟨0, Nat.zero_le _, by omega, rfl, rfl, rfl, Below.refl _ _⟩
  case round =>
    obtain ⟨k, hk, hgg, rfl, rfl, rfl, HBW⟩ := hrel
    by_cases hlt : k < l.length
    · have hlt3 : (k : Int) < (l.length : Int) := by omega
      have hk0 : (0 : Int) ≤ (k : Int) := by omega
      obtain ⟨lb, lof, hao, y0⟩ := (HLC.out.go HBW.out).at hlt
      subst hao
      have hnd := HNO.out _ (List.getElem_mem hlt)
      obtain ⟨s, hss⟩ : ∃ s : Nat, l[k] = (s : Int) := ⟨l[k].toNat, by have := hnd.1; omega⟩
      rw [hss] at y0 hnd
      have hsn : s < n := by have := hnd.2; omega
      have HRK := Lib.hid (fun W' (hz : Below W.heap.size W W') => HRO.out W' hz s hsn)
      unfold RowOut at HRK
      have HCN := Lib.hid (show cenF (distV es) l (k + 1) = if maxV (l.map (distV es (s : Int))) < (cenF (distV es) l k).2 then ((k : Int), maxV (l.map (distV es (s : Int)))) else cenF (distV es) l k by
        rw [← hss, show l[k] = l.getD k 0 by simp [List.getD, hlt]]; rfl)
      obtain ⟨d0, d1⟩ := HCC.out
      have d0 := cell_later HBW.out d0
      have d1 := cell_later HBW.out d1
      clear hnd hss
      generalize cenF (distV es) l k = c at *
      obtain ⟨cb, cm⟩ := c
      simp only at HCN ⊢
      go_upto_region 5 with (fail)
      obtain ⟨wk, hwk⟩ : ∃ wk, wk = wr := ⟨_, rfl⟩
      rw [← hwk] at HBW y0 d0 d1 ⊢
      go_cut [9] from 18 to 24 (fun v9 wc => RowV es (s : Int) l v9 wc ∧ Below wk.heap.size wk wc)
      case first =>
        rename_i J K2 hJ hK2
        refine wp_region_grows_act 8 rfl (rcR (.agg #[.int .i64 (n : Int), .slice ao es.length cap]) (.slice (some ⟨lb, lof, none⟩) l.length lc) (.pointer (some ⟨lb, lof + k, none⟩)) (k : Int) (s : Int) es l) (by kernel_rfl) (by kernel_rfl) rcR_go ?_ ?_
        · refine ⟨?_, ?_, ?_, ?_, ?_, ?_, ?_, ?_, trivial⟩
          · intro act w' hbe hd ho K hK
            have g2 : act.tmps.getD 2 undef = .pointer (some ⟨w.heap.size, 0, none⟩) := ho 2 (by kernel_rfl)
            have f0 := cell_later hbe d0
            have f1 := cell_later hbe d1
            simp [Oper.wp, execOp, Oper.upon, go_sem, Act.eval, g2, f0, f1]
            exact hK _ w' (Below.refl _ _) rfl
          · intro act w' hbe hd ho K hK
            have g1 : act.tmps.getD 1 undef = .slice (some ⟨lb, lof, none⟩) l.length lc := ho 1 (by kernel_rfl)
            simp [Oper.wp, execOp, Oper.upon, go_sem, Act.eval, g1]
            exact hK _ w' (Below.refl _ _) rfl
          · intro act w' hbe hd ho K hK
            have g8 : act.tmps.getD 8 undef = .int .i64 (k : Int) := ho 8 (by kernel_rfl)
            simp [Oper.wp, execOp, Oper.upon, go_sem, Act.eval, g8]
            exact hK _ w' (Below.refl _ _) rfl
          · intro act w' hbe hd ho K hK
            have e1 : act.tmps.getD 19 undef = .slice (some ⟨lb, lof, none⟩) l.length lc := hd 1 (by rfl)
            have e2 : act.tmps.getD 20 undef = .int .i64 (k : Int) := hd 2 (by rfl)
            simp [Oper.wp, execOp, Oper.upon, go_sem, Act.eval, e1, e2, hlt]
            exact hK _ w' (Below.refl _ _) rfl
          · intro act w' hbe hd ho K hK
            have e3 : act.tmps.getD 21 undef = .pointer (some ⟨lb, lof + k, none⟩) := hd 3 (by rfl)
            have f0 := cell_later hbe y0
            simp [Oper.wp, execOp, Oper.upon, go_sem, Act.eval, e3, f0]
            exact hK _ w' (Below.refl _ _) rfl
          · intro act w' hbe hd ho K hK
            have g1 : act.tmps.getD 1 undef = .slice (some ⟨lb, lof, none⟩) l.length lc := ho 1 (by kernel_rfl)
            simp [Oper.wp, execOp, Oper.upon, go_sem, Act.eval, g1]
            exact hK _ w' (Below.refl _ _) rfl
          · intro act w' hbe hd ho K hK
            have e0 : act.tmps.getD 18 undef = .agg #[.int .i64 (n : Int), .slice ao es.length cap] := hd 0 (by rfl)
            have e4 : act.tmps.getD 22 undef = .int .i64 (s : Int) := hd 4 (by rfl)
            have e5 : act.tmps.getD 23 undef = .slice (some ⟨lb, lof, none⟩) l.length lc := hd 5 (by rfl)
            simp [Oper.wp, execOp, Oper.upon, go_sem, Act.eval, e0, e4, e5]
            refine (HRK.out w' (HBW.out.st hbe)).mono ?_
            rintro e w6 ⟨a6, c6, rfl, h1, h2, h3⟩
            exact hK _ w6 h3 ⟨a6, c6, rfl, h1⟩
          · intro act w' hbe hd ho K hK
            obtain ⟨a6, c6, e6, hu⟩ : RowV es (s : Int) l (act.tmps.getD 24 undef) w' := hd 6 (by rfl)
            simp [Oper.wp, execOp, Oper.upon, go_sem, Act.eval, e6]
            exact hK _ w' (Below.refl _ _) ⟨a6, c6, rfl, hu⟩
        · intro vs w' hb1 hR
          simp only [puts, dstAt, List.getElem?_cons_zero, List.getElem?_cons_succ, Option.bind_some, Option.getD_some, Act.put, List.length_cons, List.length_nil, Nat.reduceAdd, List.setIfInBounds_toArray, List.set_cons_zero, List.set_cons_succ]
          refine hK2 _ _ ?_
          go_meet
          exact ⟨hR 7 (by decide), hb1⟩
      case rest =>
        obtain ⟨⟨a9, c9, rfl, hrc⟩, hbc⟩ := hcut
        have HRC := Lib.hid hrc
        have HBC := Lib.hid (HBW.out.st hbc)
        have HT := Lib.hid (fun j (h : j < (l.map (distV es (s : Int))).length) => maxV_take h)
        have HTL := Lib.hid (show (l.map (distV es (s : Int))).take (l.map (distV es (s : Int))).length = l.map (distV es (s : Int)) from List.take_length)
        have hlm : (l.map (distV es (s : Int))).length = l.length := List.length_map _
        have HLM := Lib.hid hlm
        clear hrc hbc hlm
        generalize l.map (distV es (s : Int)) = q at *
        go_wp2
        go_loopg [11, 10] l.length (fun g2 v11 v10 wr => ∃ j : Nat, j ≤ l.length ∧ l.length - j ≤ g2 ∧ v11 = .int .i64 (j : Int) ∧ v10 = .int .u64 (maxV (q.take j)) ∧ wr = wc)
        case atStart => exact ⟨0, Nat.zero_le _, by omega, rfl, rfl, rfl⟩
        case round =>
          obtain ⟨j, hj, hg2, rfl, rfl, rfl⟩ := hrel
          by_cases hlt2 : j < l.length
          · have hlt4 : (j : Int) < (l.length : Int) := by omega
            have hj0 : (0 : Int) ≤ (j : Int) := by omega
            have hjq : j < q.length := by rw [HLM.out]; exact hlt2
            obtain ⟨qb, qo, hqa, z0⟩ := HRC.out.at hjq
            subst hqa
            have HTK := Lib.hid (HT.out j hjq)
            generalize q[j] = x at *
            generalize maxV (q.take j) = m at *
            clear hjq
            go_wp2
            go_roundg (l.length - (j + 1))
            case measure => omega
            case rel => exact ⟨j + 1, by omega, Nat.le_refl _, by go_num, by rw [HTK.out], rfl⟩
          · obtain rfl : j = l.length := by omega
            have e1 : maxV (q.take l.length) = maxV q := by rw [← HLM.out, HTL.out]
            rw [e1]
            clear e1
            generalize maxV q = m at *
            by_cases hlm : m < cm
            · have HC2 := Lib.hid (show cenF (distV es) l (k + 1) = ((k : Int), m) by rw [HCN.out, if_pos hlm])
              have hg : decide (m < cm) = true := by simpa using hlm
              clear HCN hlm
              go_wp2
              go_roundg (l.length - (k + 1))
              case measure => omega
              case rel => exact ⟨k + 1, by omega, Nat.le_refl _, by go_num, by rw [HC2.out], by rw [HC2.out], HBC.out⟩
            · have HC2 := Lib.hid (show cenF (distV es) l (k + 1) = (cb, cm) by rw [HCN.out, if_neg hlm])
              have hg : decide (m < cm) = false := by simpa using hlm
              clear HCN hlm
              go_wp2
              go_roundg (l.length - (k + 1))
              case measure => omega
              case rel => exact ⟨k + 1, by omega, Nat.le_refl _, by go_num, by rw [HC2.out], by rw [HC2.out], HBC.out⟩
    · obtain rfl : k = l.length := by omega
      go_wp2
      refine bodyPost_ret (v := .tuple #[.int .i64 (cenF (distV es) l l.length).1, .int .u64 (cenF (distV es) l l.length).2]) (by simp [results, Tryz.results45, go_sem]; try rfl) rfl ?_
      exact ⟨rfl, HB.out.st HBW.out⟩

/-- .. and where it asks how far the next one is -/
def rtR (gv lv p : Value) (i j s x : Int) (es : List EdgeD) (l : List Int) : Nat → Value → World → Prop
  | 0, v, _ => v = gv
  | 1, v, _ => v = lv
  | 2, v, _ => v = .int .i64 i
  | 3, v, _ => v = .int .i64 j
  | 4, v, _ => v = p
  | 5, v, _ => v = .int .i64 s
  | 6, v, _ => v = lv
  | 7, v, W => RowV es s l v W
  | 8, v, _ => v = .int .i64 i
  | 9, v, W => ∃ b o, v = .pointer (some ⟨b, o, none⟩) ∧ W.cell? ⟨b, o, none⟩ = some (.int .u64 x)
  | 10, v, _ => v = .int .u64 x
  | 11, v, _ => v = .int .u64 x
  | _, _, _ => True
theorem rtR_go {gv lv p : Value} {i j s x : Int} {es : List EdgeD} {l : List Int} : ∀ (k : Nat) (v : Value) (w w' : World), Below w.heap.size w w' → rtR gv lv p i j s x es l k v w → rtR gv lv p i j s x es l k v w'
  | 0, _, _, _, _, h | 1, _, _, _, _, h | 2, _, _, _, _, h | 3, _, _, _, _, h | 4, _, _, _, _, h | 5, _, _, _, _, h | 6, _, _, _, _, h | 8, _, _, _, _, h | 10, _, _, _, _, h | 11, _, _, _, _, h => h
  | 7, _, _, _, hb, h => RowV.go h hb
  | 9, _, _, _, hb, h => let ⟨b, o, h1, h2⟩ := h; ⟨b, o, h1, cell_later hb h2⟩
  | _ + 12, _, _, _, _, _ => trivial

/-- what the reference's Tour gives -/
def RefTour (es : List EdgeD) (l : List Int) (w : World) (e : Ending) (w' : World) : Prop :=
  ((legsOK (distV es) l (l.length - 1) ∧ e = .returned (.tuple #[.int .u64 (legSum (distV es) l (l.length - 1)), .bool true])) ∨
    ((∃ j, j < l.length - 1 ∧ 4611686018427387904 ≤ distV es (l.getD j 0) (l.getD (j + 1) 0)) ∧ e = .returned (.tuple #[.int .u64 0, .bool false]))) ∧ Below w.heap.size w w'
set_option maxRecDepth 100000 in
set_option maxHeartbeats 4000000 in
theorem refTour_any (n : Nat) (es : List EdgeD) (ao : Option Addr) (cap : Nat) (lo : Option Addr) (lc : Nat) (l : List Int) (w : World) (hg : rightG ⟨(n : Int), es⟩ = 0) (hn : n ≤ 12) (hes : es.length ≤ 40) (hc : Cel w ao (flat es)) (hlc : Cel w lo (l.map encI)) (hl : l.length ≤ 60) (hno : ∀ t ∈ l, nodeN n t)
    (hA : ∀ u v w, arcG es u v w → 1 ≤ w) (hdt : ∀ j, j < l.length - 1 → DistT es (l.getD j 0) (l.getD (j + 1) 0)) :
    Calls Tryz.prog 46 #[.agg #[.int .i64 (n : Int), .slice ao es.length cap], .slice lo l.length lc] w (RefTour es l w) := by
  obtain ⟨W, hW⟩ : ∃ W, W = w.alloc (Obj.cells #[.int .i64 (n : Int), .slice ao es.length cap] 24) := ⟨_, rfl⟩
  have hbw : Below w.heap.size w W := by rw [hW]; exact Below.of_al _ _
  have c0 : W.cell? ⟨w.heap.size, 0, none⟩ = some (.int .i64 (n : Int)) := by rw [hW]; go_simp
  have c1 : W.cell? ⟨w.heap.size, 1, none⟩ = some (.slice ao es.length cap) := by rw [hW]; go_simp
  have HW := Lib.hid hW
  have HB := Lib.hid hbw
  have HRO := Lib.hid (fun W' (hz : Below W.heap.size W W') s hs => refRow_any n s es ao cap lo lc l W' hg hn hes hs ((hc.go hbw).go hz) ((hlc.go hbw).go hz) hl hno hA)
  have HLC := Lib.hid (hlc.go hbw)
  have HNO := Lib.hid hno
  have hl2 : (l.length : Int) ≤ 60 := by omega
  have HCC := Lib.hid (And.intro c0 c1)
  have HDT := Lib.hid hdt
  have HL := Lib.hid hl
  clear hW hbw hc hlc hno hA hl c0 c1 hdt
  go_enter Tryz.func46, Tryz.ntmps46
  go_upto_region 1 with (fail)
  rw [← HW.out]
  go_wp2
  go_loopg [7, 6] l.length (fun gg v7 v6 wr => ∃ j : Nat, (j + 1 ≤ l.length ∨ j = 0) ∧ l.length - (j + 1) ≤ gg ∧ v7 = .int .i64 ((j + 1 : Nat) : Int) ∧ v6 = .int .u64 (legSum (distV es) l j) ∧ Aside (legsOK (distV es) l j) ∧ Aside (Below W.heap.size W wr))
  case atStart => exact ⟨0, .inr rfl, by omega, rfl, rfl, legsOK.none _ _, Below.refl _ _⟩
  case round =>
    obtain ⟨j, hk, hgg, rfl, rfl, HOK, HBW⟩ := hrel
    by_cases hlt : j + 1 < l.length
    · have hlt3 : (j : Int) + 1 < (l.length : Int) := by omega
      have hj0 : (0 : Int) ≤ (j : Int) := by omega
      have hjl : j < l.length := by omega
      obtain ⟨lb, lof, hao, y0⟩ := (HLC.out.go HBW.out).at hjl
      subst hao
      have hnd := HNO.out _ (List.getElem_mem hjl)
      obtain ⟨s, hss⟩ : ∃ s : Nat, l[j] = (s : Int) := ⟨l[j].toNat, by have := hnd.1; omega⟩
      rw [hss] at y0 hnd
      have hsn : s < n := by have := hnd.2; omega
      have HRK := Lib.hid (fun W' (hz : Below W.heap.size W W') => HRO.out W' hz s hsn)
      unfold RowOut at HRK
      have hg0 : l.getD j 0 = (s : Int) := by rw [← hss]; simp [List.getD, hjl]
      have hg1 : l.getD (j + 1) 0 = l[j + 1] := by simp [List.getD, hlt]
      have hdj := HDT.out j (by omega)
      have hbd := legSum_in HOK.out (fun i hi => HDT.out i (by omega))
      rw [hg0, hg1] at hdj
      have HX := Lib.hid (show distV es (l.getD j 0) (l.getD (j + 1) 0) = distV es (s : Int) l[j + 1] by rw [hg0, hg1])
      have HS := Lib.hid (show legSum (distV es) l (j + 1) = legSum (distV es) l j + distV es (s : Int) l[j + 1] by rw [← HX.out]; rfl)
      have hdin := hdj.in
      obtain ⟨x, hx⟩ : ∃ x, x = distV es (s : Int) l[j + 1] := ⟨_, rfl⟩
      have HXE := Lib.hid hx
      rw [← hx] at HX HS hdin
      have HSM := Lib.hid hbd
      have HJ := Lib.hid (And.intro hjl hlt)
      obtain ⟨d0, d1⟩ := HCC.out
      have d0 := cell_later HBW.out d0
      have d1 := cell_later HBW.out d1
      have HGG := Lib.hid hgg
      clear hnd hss hx hg0 hg1 hdj hbd hk hgg
      generalize legSum (distV es) l j = sm at *
      go_upto_region 5 with (fail)
      obtain ⟨wk, hwk⟩ : ∃ wk, wk = wr := ⟨_, rfl⟩
      rw [← hwk] at HBW y0 d0 d1 ⊢
      go_cut [8] from 15 to 25 (fun v8 wc => v8 = .int .u64 x ∧ Below wk.heap.size wk wc)
      case first =>
        rename_i J K2 hJ hK2
        refine wp_region_grows_act 12 rfl (rtR (.agg #[.int .i64 (n : Int), .slice ao es.length cap]) (.slice (some ⟨lb, lof, none⟩) l.length lc) (.pointer (some ⟨lb, lof + j, none⟩)) ((j + 1 : Nat) : Int) (j : Int) (s : Int) x es l) (by kernel_rfl) (by kernel_rfl) rtR_go ?_ ?_
        · refine ⟨?_, ?_, ?_, ?_, ?_, ?_, ?_, ?_, ?_, ?_, ?_, ?_, trivial⟩
          · intro act w' hbe hd ho K hK
            have g2 : act.tmps.getD 2 undef = .pointer (some ⟨w.heap.size, 0, none⟩) := ho 2 (by kernel_rfl)
            have f0 := cell_later hbe d0
            have f1 := cell_later hbe d1
            simp [Oper.wp, execOp, Oper.upon, go_sem, Act.eval, g2, f0, f1]
            exact hK _ w' (Below.refl _ _) rfl
          · intro act w' hbe hd ho K hK
            have g1 : act.tmps.getD 1 undef = .slice (some ⟨lb, lof, none⟩) l.length lc := ho 1 (by kernel_rfl)
            simp [Oper.wp, execOp, Oper.upon, go_sem, Act.eval, g1]
            exact hK _ w' (Below.refl _ _) rfl
          · intro act w' hbe hd ho K hK
            have g7 : act.tmps.getD 7 undef = .int .i64 ((j + 1 : Nat) : Int) := ho 7 (by kernel_rfl)
            simp [Oper.wp, execOp, Oper.upon, go_sem, Act.eval, g7]
            exact hK _ w' (Below.refl _ _) rfl
          · intro act w' hbe hd ho K hK
            have e3 : act.tmps.getD 17 undef = .int .i64 ((j + 1 : Nat) : Int) := hd 2 (by rfl)
            have hwi : IntKind.i64.wrap (j : Int) = (j : Int) := by rw [IntKind.wrap_i64]; omega
            simp [Oper.wp, execOp, Oper.upon, go_sem, Act.eval, e3, hwi]
            exact hK _ w' (Below.refl _ _) rfl
          · intro act w' hbe hd ho K hK
            have e1 : act.tmps.getD 16 undef = .slice (some ⟨lb, lof, none⟩) l.length lc := hd 1 (by rfl)
            have e2 : act.tmps.getD 18 undef = .int .i64 (j : Int) := hd 3 (by rfl)
            simp [Oper.wp, execOp, Oper.upon, go_sem, Act.eval, e1, e2, hjl]
            exact hK _ w' (Below.refl _ _) rfl
          · intro act w' hbe hd ho K hK
            have e3 : act.tmps.getD 19 undef = .pointer (some ⟨lb, lof + j, none⟩) := hd 4 (by rfl)
            have f0 := cell_later hbe y0
            simp [Oper.wp, execOp, Oper.upon, go_sem, Act.eval, e3, f0]
            exact hK _ w' (Below.refl _ _) rfl
          · intro act w' hbe hd ho K hK
            have g1 : act.tmps.getD 1 undef = .slice (some ⟨lb, lof, none⟩) l.length lc := ho 1 (by kernel_rfl)
            simp [Oper.wp, execOp, Oper.upon, go_sem, Act.eval, g1]
            exact hK _ w' (Below.refl _ _) rfl
          · intro act w' hbe hd ho K hK
            have e0 : act.tmps.getD 15 undef = .agg #[.int .i64 (n : Int), .slice ao es.length cap] := hd 0 (by rfl)
            have e4 : act.tmps.getD 20 undef = .int .i64 (s : Int) := hd 5 (by rfl)
            have e5 : act.tmps.getD 21 undef = .slice (some ⟨lb, lof, none⟩) l.length lc := hd 6 (by rfl)
            simp [Oper.wp, execOp, Oper.upon, go_sem, Act.eval, e0, e4, e5]
            refine (HRK.out w' (HBW.out.st hbe)).mono ?_
            rintro e w6 ⟨a6, c6, rfl, h1, h2, h3⟩
            exact hK _ w6 h3 ⟨a6, c6, rfl, h1⟩
          · intro act w' hbe hd ho K hK
            have g7 : act.tmps.getD 7 undef = .int .i64 ((j + 1 : Nat) : Int) := ho 7 (by kernel_rfl)
            simp [Oper.wp, execOp, Oper.upon, go_sem, Act.eval, g7]
            exact hK _ w' (Below.refl _ _) rfl
          · intro act w' hbe hd ho K hK
            obtain ⟨a6, c6, e6, hu⟩ : RowV es (s : Int) l (act.tmps.getD 22 undef) w' := hd 7 (by rfl)
            have e8 : act.tmps.getD 23 undef = .int .i64 ((j + 1 : Nat) : Int) := hd 8 (by rfl)
            obtain ⟨b6, o6, rfl, z6⟩ := hu.at (i := j + 1) (by simpa using hlt)
            rw [List.getElem_map] at z6
            have hif : (0 : Int) ≤ (j : Int) + 1 ∧ (j : Int) + 1 < (l.length : Int) := ⟨by omega, hlt3⟩
            simp [Oper.wp, execOp, Oper.upon, go_sem, Act.eval, e6, e8, hif]
            exact hK _ w' (Below.refl _ _) ⟨b6, _, rfl, by rw [HXE.out]; exact z6⟩
          · intro act w' hbe hd ho K hK
            obtain ⟨b6, o6, e6, z6⟩ : ∃ b o, act.tmps.getD 24 undef = .pointer (some ⟨b, o, none⟩) ∧ w'.cell? ⟨b, o, none⟩ = some (.int .u64 x) := hd 9 (by rfl)
            simp [Oper.wp, execOp, Oper.upon, go_sem, Act.eval, e6, z6]
            exact hK _ w' (Below.refl _ _) rfl
          · intro act w' hbe hd ho K hK
            have e6 : act.tmps.getD 25 undef = .int .u64 x := hd 10 (by rfl)
            simp [Oper.wp, execOp, Oper.upon, go_sem, Act.eval, e6]
            exact hK _ w' (Below.refl _ _) rfl
        · intro vs w' hb1 hR
          simp only [puts, dstAt, List.getElem?_cons_zero, List.getElem?_cons_succ, Option.bind_some, Option.getD_some, Act.put, List.length_cons, List.length_nil, Nat.reduceAdd, List.setIfInBounds_toArray, List.set_cons_zero, List.set_cons_succ]
          refine hK2 _ _ ?_
          go_meet
          exact ⟨hR 11 (by decide), hb1⟩
      case rest =>
        obtain ⟨rfl, hbc⟩ := hcut
        have HBC := Lib.hid (HBW.out.st hbc)
        clear hbc
        by_cases hx : x < 4611686018427387904
        · have HM2 := Lib.hid (HOK.out.more (by rw [HX.out]; exact hx))
          have hgx : decide (4611686018427387904 ≤ x) = false := by simp; omega
          have hwr : IntKind.u64.wrap (sm + x) = sm + x := by rw [IntKind.wrap_u64]; have := HSM.out; have := HJ.out; have := HL.out; omega
          clear hx
          go_wp2
          go_roundg (l.length - (j + 1 + 1))
          case measure => (have := HJ.out; have := HGG.out; omega)
          case rel => exact ⟨j + 1, .inl (by have := HJ.out; omega), Nat.le_refl _, by go_num, by rw [← HS.out], HM2.out, HBC.out⟩
        · have hj9 : j < l.length - 1 := by have := HJ.out; omega
          have HF2 := Lib.hid (show ∃ j, j < l.length - 1 ∧ 4611686018427387904 ≤ distV es (l.getD j 0) (l.getD (j + 1) 0) from ⟨j, hj9, by rw [HX.out]; omega⟩)
          obtain rfl : x = 4611686018427387904 := by omega
          clear hx hj9
          go_wp2
          refine bodyPost_ret (v := .tuple #[.int .u64 0, .bool false]) (by simp [results, Tryz.results46, go_sem]; try rfl) rfl ?_
          exact ⟨.inr ⟨HF2.out, rfl⟩, HB.out.st HBC.out⟩
    · have hje : j = l.length - 1 := by omega
      have hge : ¬ ((j : Int) + 1 < (l.length : Int)) := by omega
      have HJE := Lib.hid hje
      clear hje hk hlt
      go_wp2
      refine bodyPost_ret (v := .tuple #[.int .u64 (legSum (distV es) l j), .bool true]) (by simp [results, Tryz.results46, go_sem]; try rfl) rfl ?_
      have h1 := HJE.out
      exact ⟨.inl ⟨by rw [← h1]; exact HOK.out, by rw [← h1]⟩, HB.out.st HBW.out⟩

theorem why_bad (gv1 gv2 lv : Value) (k : Int) (w : World) (hk : k ≠ 0) : Calls Tryz.prog 44 #[.agg #[gv1, gv2], .int .i64 k, lv] w fun e w' => e = .returned (.int .i64 1) ∧ Below w.heap.size w w' := by
  have hne : (k != 0) = true := by simpa using hk
  clear hk
  go_enter Tryz.func44, Tryz.ntmps44
  go_wp2
  go_ret
  exact ⟨rfl, Below.of_al _ _⟩
set_option maxHeartbeats 1000000 in
theorem why_ok (n : Nat) (ao : Option Addr) (m cap : Nat) (lo : Option Addr) (lc : Nat) (l : List Int) (w : World) (hc : Cel w lo (l.map encI)) (hl : l.length ≤ 1000000) :
    Calls Tryz.prog 44 #[.agg #[.int .i64 (n : Int), .slice ao m cap], .int .i64 0, .slice lo l.length lc] w fun e w' => e = .returned (.int .i64 (if l.any (outB n) then 7 else 0)) ∧ Below w.heap.size w w' := by
  obtain ⟨W, hW⟩ : ∃ W, W = w.alloc (Obj.cells #[.int .i64 (n : Int), .slice ao m cap] 24) := ⟨_, rfl⟩
  have hbw : Below w.heap.size w W := by rw [hW]; exact Below.of_al _ _
  have c0 : W.cell? ⟨w.heap.size, 0, none⟩ = some (.int .i64 (n : Int)) := by rw [hW]; go_simp
  have c1 : W.cell? ⟨w.heap.size, 1, none⟩ = some (.slice ao m cap) := by rw [hW]; go_simp
  have HN := Lib.hid (refNodes_any n (.slice ao m cap) lo lc l W (hc.go hbw) hl)
  have HW := Lib.hid hW
  have HB := Lib.hid hbw
  clear hW hbw hc
  generalize l.any (outB n) = r at *
  go_enter Tryz.func44, Tryz.ntmps44
  go_upto_region 1 with (fail)
  rw [← HW.out]
  cases r with
  | true =>
    go_wp2_with (go_at_call 36; refine HN.out.mono ?_; rintro e w1 ⟨rfl, hb1⟩; (have HB1 := Lib.hid hb1); clear hb1)
    go_ret
    exact ⟨rfl, HB.out.st HB1.out⟩
  | false =>
    go_wp2_with (go_at_call 36; refine HN.out.mono ?_; rintro e w1 ⟨rfl, hb1⟩; (have HB1 := Lib.hid hb1); clear hb1)
    go_ret
    exact ⟨rfl, HB.out.st HB1.out⟩

end Go.Proofs.YtkdomobedfhhgaaGreat
end
