/-
  Walks over the reference of searches: is a number in a row, which edges count, their ends, all weights.
  Walks over the reference of searches: all weights, how far all nodes are.
  Walk of the library's slices.Repeat at one weight.
-/
import Derived.Test.YtkdomobedfhhgaaGreatProg
import Derived.Test.YtkdomobedfhhgaaGreatRa02
import Derived.Test.YtkdomobedfhhgaaGreatQb14
import Derived.Test.YtkdomobedfhhgaaGreatQb17
import Derived.Test.YtkdomobedfhhgaaGreatRa01
import Derived.Test.YtkdomobedfhhgaaGreatQb31
import Derived.Laws.CopyOwn
import Derived.Deep.RegionLaw
set_option linter.unusedVariables false
set_option linter.unusedSimpArgs false
set_option linter.unnecessarySimpa false
section
namespace Go.Proofs.YtkdomobedfhhgaaGreat
open Go Go.Proofs Go.RowKit Go.Shelf Go.Proofs.YtkdomobedfhhgaaGreat.Ch

theorem refHas_any (ao : Option Addr) (cap : Nat) (l : List Int) (x : Int) (w : World) (hl : l.length ≤ 9223372036854775807) (hc : Cel w ao (l.map encI)) :
    Calls Tryz.prog 27 #[.slice ao l.length cap, .int .i64 x] w fun e w' => e = .returned (.bool (decide (x ∈ l))) ∧ w = w' := by
  have HC := Lib.hid hc
  clear hc
  have HT := Lib.hid (fun k (h : k < l.length) (e : l[k] = x) => (decide_eq_true (e ▸ List.getElem_mem h) : decide (x ∈ l) = true))
  have HF := Lib.hid (fun (h : ∀ j (hj : j < l.length), l[j] ≠ x) => (decide_eq_false (fun hm => by obtain ⟨j, hj, e⟩ := List.getElem_of_mem hm; exact h j hj e) : decide (x ∈ l) = false))
  generalize decide (x ∈ l) = r at *
  go_enter Tryz.func27, Tryz.ntmps27
  go_wp2
  go_loopg [5] l.length (fun g i wr => ∃ k : Nat, k ≤ l.length ∧ l.length - k ≤ g ∧ i = .int .i64 k ∧ wr = w ∧ Aside (∀ j (hj : j < l.length), j < k → l[j] ≠ x))
  case atStart => exact ⟨0, Nat.zero_le _, by omega, rfl, rfl, fun j _ h => absurd h (Nat.not_lt_zero _)⟩
  case round =>
    obtain ⟨k, hk, hg, rfl, rfl, HA⟩ := hrel
    by_cases hlt : k < l.length
    · have hlt3 : (k : Int) < (l.length : Int) := by omega
      have hk0 : (0 : Int) ≤ (k : Int) := by omega
      obtain ⟨b, o, hao, hcell⟩ := HC.out.at hlt
      subst hao
      have H1 := Lib.hid (HT.out k hlt)
      have H2 := Lib.hid (fun h : l[k] ≠ x => (fun j (h1 : j < l.length) (h2 : j < k + 1) => (by
        by_cases e : j = k
        · subst e; exact h
        · exact HA.out j h1 (by omega) : l[j] ≠ x)))
      generalize l[k] = y at *
      by_cases e : y = x
      · have he : (y == x) = true := by simp [e]
        have HR := Lib.hid (H1.out e)
        clear e
        go_wp2
        go_ret
        exact ⟨by rw [HR.out]; rfl, rfl⟩
      · have he : (y == x) = false := by simp [e]
        have HR := Lib.hid (H2.out e)
        clear e
        go_wp2
        go_roundg (l.length - (k + 1))
        case measure => omega
        case rel => exact ⟨k + 1, by omega, by omega, by go_num, rfl, HR.out⟩
    · obtain rfl : k = l.length := by omega
      have HR := Lib.hid (HF.out fun j hj => HA.out j hj hj)
      go_wp2
      go_ret
      exact ⟨by rw [HR.out]; rfl, rfl⟩


/-- an edge, turned round if that is so -/
def endsC (back : Bool) (e : EdgeD) : Int × Int := if back then (e.t, e.f) else (e.f, e.t)
theorem refEnds_any (e : EdgeD) (back : Bool) (w : World) :
    Calls Tryz.prog 119 #[.agg #[.int .i64 e.f, .int .i64 e.t, .int .u64 e.w], .bool back] w fun x w' => x = .returned (.tuple #[.int .i64 (endsC back e).1, .int .i64 (endsC back e).2]) ∧ Below w.heap.size w w' := by
  obtain ⟨f, t, x⟩ := e
  unfold endsC
  obtain ⟨W, hW⟩ : ∃ W, W = w.alloc (Obj.cells #[.int .i64 f, .int .i64 t, .int .u64 x] 119) := ⟨_, rfl⟩
  have HB := Lib.hid (show Below w.heap.size w W by rw [hW]; exact Below.of_al _ _)
  have c0 : W.cell? ⟨w.heap.size, 0, none⟩ = some (.int .i64 f) := by rw [hW]; go_simp
  have c1 : W.cell? ⟨w.heap.size, 1, none⟩ = some (.int .i64 t) := by rw [hW]; go_simp
  have f0 := fun p => cell_ext p c0
  have f1 := fun p => cell_ext p c1
  have HW := Lib.hid hW
  clear hW
  cases back
  all_goals
    go_enter Tryz.func119, Tryz.ntmps119
    go_upto_region 1 with (fail)
    rw [← HW.out]
    go_wp2
    refine wp_region_ext (by kernel_rfl) (by kernel_rfl) ?_
    repeat (go_big_quiet_step (fail))
    refine wpQuiet_nil ?_
    rintro _ ⟨pq, rfl⟩
    have HBq := Lib.hid (below_ext W pq)
    generalize ext W pq = wq at HBq ⊢
    go_wp2
    refine bodyPost_ret (by simp [results, Tryz.results119, go_sem]; try rfl) rfl ?_
    exact ⟨rfl, HB.out.st HBq.out⟩

/-- does an edge count: none of its ends is out -/
def countB (no : List Int) (e : EdgeD) : Bool := !decide (e.f ∈ no) && !decide (e.t ∈ no)
/-- the options of a search: which way, and which nodes are out -/
abbrev optC (back : Bool) (ao : Option Addr) (n cap : Nat) : Value := .agg #[.bool back, .slice ao n cap, .slice none 0 0, .slice none 0 0, .int .u64 0]
set_option maxRecDepth 100000 in
set_option maxHeartbeats 1000000 in
theorem refCounts_any (n : Int) (es : List EdgeD) (ao no : Option Addr) (cap nc : Nat) (back : Bool) (l : List Int) (k : Nat) (hk : k < es.length) (w : World) (hl : l.length ≤ 1000000) (hel : es.length ≤ 1000000) (hc : Cel w ao (flat es)) (hn : Cel w no (l.map encI)) :
    Calls Tryz.prog 111 #[.agg #[.int .i64 n, .slice ao es.length cap], .int .i64 k, optC back no l.length nc] w fun x w' => x = .returned (.bool (countB l es[k])) ∧ Below w.heap.size w w' := by
  obtain ⟨W, hW⟩ : ∃ W, W = (w.alloc (Obj.cells #[.int .i64 n, .slice ao es.length cap] 24)).alloc (Obj.cells #[.bool back, .slice no l.length nc, .slice none 0 0, .slice none 0 0, .int .u64 0] 116) := ⟨_, rfl⟩
  have hbw : Below w.heap.size w W := by rw [hW]; exact (Below.of_al _ _).al _
  have c1 : W.cell? ⟨w.heap.size, 1, none⟩ = some (.slice ao es.length cap) := by rw [hW]; go_simp
  have c2 : W.cell? ⟨w.heap.size + 1, 1, none⟩ = some (.slice no l.length nc) := by rw [hW]; go_simp
  have c3 : W.cell? ⟨w.heap.size + 1, 2, none⟩ = some (.slice none 0 0) := by rw [hW]; go_simp
  have HB := Lib.hid hbw
  have HW := Lib.hid hW
  obtain ⟨b, o, rfl, g0, g1, g2⟩ := (hc.go hbw).edge hk
  have HH := Lib.hid (fun W' (hz : Below W.heap.size W W') x => refHas_any no nc l x W' (by omega) ((hn.go hbw).go hz))
  have HN := Lib.hid (fun (W' : World) x => refHas_any none 0 [] x W' (by simp) (Cel.nil _ _))
  have hk3 : (k : Int) < (es.length : Int) := by omega
  have hk0 : (0 : Int) ≤ (k : Int) := by omega
  generalize es[k] = e at *
  have HE := Lib.hid (show countB l e = (!decide (e.f ∈ l) && !decide (e.t ∈ l)) from rfl)
  generalize countB l e = r at *
  have HF := Lib.hid (fun W' hz => HH.out W' hz e.f)
  have HT := Lib.hid (fun W' hz => HH.out W' hz e.t)
  have HX := Lib.hid (fun p => below_ext W p)
  clear hW hc hn hbw HH
  generalize decide (e.f ∈ l) = bf at *
  generalize decide (e.t ∈ l) = bt at *
  obtain ⟨f, t, x⟩ := e
  simp only at HF HT g0 g1
  have f1 := fun p => cell_ext p c1
  have f2 := fun p => cell_ext p c2
  have f3 := fun p => cell_ext p c3
  have y0 := fun p => cell_ext p g0
  have y1 := fun p => cell_ext p g1
  cases bf <;> cases bt
  all_goals
    go_enter Tryz.func111, Tryz.ntmps111
    go_upto_region 1 with (fail)
    rw [← HW.out]
    refine wp_region_ext (by kernel_rfl) (by kernel_rfl) ?_
    repeat (go_big_quiet_step ((first | (go_at_call_of 27 (Value.slice none 0 0); exact Calls.ext_of_same (HN.out _ _)) | (go_at_call 27; first | with_reducible exact Calls.ext_of_same (HF.out _ (HX.out _)) | with_reducible exact Calls.ext_of_same (HT.out _ (HX.out _))))))
    refine wpQuiet_nil ?_
    rintro _ ⟨pq, rfl⟩
    have HBq := Lib.hid (below_ext W pq)
    generalize ext W pq = wq at HBq ⊢
    go_wp2
    go_ret
    exact ⟨by rw [HE.out]; rfl, HB.out.st HBq.out⟩
end Go.Proofs.YtkdomobedfhhgaaGreat
end

section
namespace Go.Proofs.YtkdomobedfhhgaaGreat
open Go Go.Proofs Go.RowKit Go.Shelf Go.Proofs.YtkdomobedfhhgaaGreat.Ch

theorem elem_u64 : Elem Tryz.prog 34 (.int .u64 0) 1 8 := ⟨by kernel_rfl, rfl, by decide⟩
/-- the edges' weights as a row -/
def wtsV (es : List EdgeD) : List Value := es.map fun x => .int .u64 x.w
theorem wtsV_take {es : List EdgeD} {k : Nat} (h : k < es.length) : wtsV (es.take (k + 1)) = wtsV (es.take k) ++ [.int .u64 es[k].w] := by
  unfold wtsV
  rw [List.take_succ_eq_append_getElem h, List.map_append]
  rfl
/-- a row is handed back, in new memory -/
def WtsPost (n : Nat) (xs : List Value) (w : World) (e : Ending) (w' : World) : Prop :=
  ∃ ao cap, e = .returned (.slice ao n cap) ∧ Cel w' ao xs ∧ Below w.heap.size w w' ∧ ∀ k, (Value.slice ao n cap).ownBlock = some k → w.heap.size ≤ k
set_option maxRecDepth 100000 in
set_option maxHeartbeats 1000000 in
theorem refWeights_any (n : Int) (es : List EdgeD) (ao no : Option Addr) (cap nn nc : Nat) (back : Bool) (w : World) (hg : rightG ⟨n, es⟩ = 0) (hel : es.length ≤ 1000000) (hc : Cel w ao (flat es)) :
    Calls Tryz.prog 110 #[.agg #[.int .i64 n, .slice ao es.length cap], optC back no nn nc] w (WtsPost es.length (wtsV es) w) := by
  obtain ⟨W, hW⟩ : ∃ W, W = (w.alloc (Obj.cells #[.int .i64 n, .slice ao es.length cap] 24)).alloc (Obj.cells #[.bool back, .slice no nn nc, .slice none 0 0, .slice none 0 0, .int .u64 0] 116) := ⟨_, rfl⟩
  have hbw : Below w.heap.size w W := by rw [hW]; exact (Below.of_al _ _).al _
  have c0 : W.cell? ⟨w.heap.size, 0, none⟩ = some (.int .i64 n) := by rw [hW]; go_simp
  have c1 : W.cell? ⟨w.heap.size, 1, none⟩ = some (.slice ao es.length cap) := by rw [hW]; go_simp
  have c2 : W.cell? ⟨w.heap.size + 1, 3, none⟩ = some (.slice none 0 0) := by rw [hW]; go_simp
  have HW := Lib.hid hW
  have HR := Lib.hid (refRightG_any ⟨n, es⟩ ao cap W (show es.length ≤ 9223372036854775807 by omega) (hc.go hbw))
  have HC := Lib.hid (hc.go hbw)
  have HB := Lib.hid hbw
  have HSZ := Lib.hid (show w.heap.size < W.heap.size by rw [hW]; simp; omega)
  rw [hg] at HR
  simp only at HR
  unfold WtsPost
  clear hW hc hbw hg
  go_enter Tryz.func110, Tryz.ntmps110
  go_upto_region 1 with (fail)
  rw [← HW.out]
  go_upto_region 5 with (go_at_call 41; refine HR.out.mono ?_; rintro e w1 ⟨rfl, hb1⟩; (have d1 := cell_later hb1 c1); (have d2 := cell_later hb1 c2); (have HC1 := Lib.hid (HC.out.go hb1)); (have HB1 := Lib.hid hb1); clear hb1)
  clear c0 c1 c2
  go_loopg [5, 6] es.length (fun gm v5 v6 wr => ∃ k : Nat, k ≤ es.length ∧ es.length - k ≤ gm ∧ v6 = .int .i64 k ∧ Aside (wr.ownsRow w1.heap.size 34 1 v5 k (wtsV (es.take k))) ∧ Aside (Below w1.heap.size w1 wr))
  case atStart => exact ⟨0, Nat.zero_le _, by omega, rfl, by rw [List.take_zero]; exact World.ownsRow_nil _ _ _ _, Below.refl _ _⟩
  case round =>
    obtain ⟨k, hk, hg, rfl, HO, HBr⟩ := hrel
    have e1 := cell_later HBr.out d1
    have e2 := cell_later HBr.out d2
    by_cases hlt : k < es.length
    · have hlt3 : (k : Int) < (es.length : Int) := by omega
      have hk0 : (0 : Int) ≤ (k : Int) := by omega
      obtain ⟨qb, qo, rfl, y0, y1, y2⟩ := (HC1.out.go HBr.out).edge hlt
      have HST := Lib.hid (wtsV_take hlt)
      generalize es[k] = x at *
      generalize wtsV (es.take k) = row at *
      clear y0 y1
      go_wp2_with (at_builtin; go_must (refine wpList_app w1.heap.size 34 _ 1 8 elem_u64 Tryz.underlying41 _ k row ⟨wr.heap.size, 0, none⟩ 1 1 [.int .u64 x.w] rfl rfl (World.ownsRow.alloc HO.out _) (cell_one_new _ _ _) (one_cells rfl) ⟨rfl, by decide, by omega, by omega, (by have := HBr.out.size; simp; omega)⟩ ?_); intro g6 cap6 w6 hown6 hgrow6 hbl6 hat6 hlt6; (have HO6 := Lib.hid hown6); (have HB6 := Lib.hid ((HBr.out.al _).trans hbl6)); clear hown6 hgrow6 hbl6 hat6 hlt6)
      go_roundg (es.length - (k + 1))
      case measure => omega
      case rel => exact ⟨k + 1, by omega, Nat.le_refl _, by go_num, by rw [HST.out]; exact HO6.out, HB6.out⟩
    · obtain rfl : k = es.length := by omega
      go_wp2
      obtain ⟨ao9, cap9, rfl, hce9⟩ := Cel.of_owns HO.out
      go_ret
      rw [List.take_length] at hce9
      exact ⟨ao9, cap9, rfl, hce9, HB.out.st (HB1.out.st HBr.out), fun j hj => by have := (HO.out.lt j hj).1; have := HB1.out.size; have := HSZ.out; omega⟩
end Go.Proofs.YtkdomobedfhhgaaGreat
end

section
namespace Go.Proofs.YtkdomobedfhhgaaGreat
open Go Go.Proofs Go.RowKit Go.Shelf Go.Proofs.YtkdomobedfhhgaaGreat.Hp Go.Proofs.YtkdomobedfhhgaaGreat.Ch

theorem owns_raw {W : World} {base D n : Nat} {E : TypeId} {xs : List Value} (h : W.ownsRow base E 1 (.slice (some ⟨D, 0, none⟩) n n) n xs) : W.heap[D]? = some (.cells xs.toArray E (0, 0)) ∧ base ≤ D ∧ xs.length = n := by
  obtain ⟨h1, h2⟩ := h
  rcases h2 with ⟨e, _⟩ | ⟨g, cap, cur, e, hb, hg, h3, h4, h5, h6⟩
  · cases e
  · cases e
    rw [Nat.mul_one] at h1 h5 h6
    refine ⟨?_, hb, h1⟩
    rw [List.take_of_length_le (by simp [h5])] at h6
    rw [hg, ← h6]
theorem raw_owns {W : World} {base D n : Nat} {E : TypeId} {xs : List Value} (hg : W.heap[D]? = some (.cells xs.toArray E (0, 0))) (hb : base ≤ D) (hl : xs.length = n) (hn : n ≤ 60000) : W.ownsRow base E 1 (.slice (some ⟨D, 0, none⟩) n n) n xs := by
  refine ⟨by omega, .inr ⟨D, n, xs.toArray, rfl, hb, hg, Nat.le_refl _, by unfold maxLen; omega, by simp [hl], ?_⟩⟩
  rw [Nat.mul_one, List.take_of_length_le (by simp [hl])]
theorem mul_any (m : Nat) (w : World) (hm : m ≤ 60000) : Calls Tryz.prog 132 #[.int .u64 1, .int .u64 (m : Int)] w fun e w' => e = .returned (.tuple #[.int .u64 0, .int .u64 (m : Int)]) ∧ w = w' := by
  have HM := Lib.hid (Tryz.bits_Mul64 1 m (by omega) (by omega) w)
  rw [Nat.one_mul, Nat.div_eq_of_lt (by omega), Nat.mod_eq_of_lt (by omega)] at HM
  have HM2 : Hid (Calls Tryz.prog 169 #[.int .u64 1, .int .u64 (m : Int)] w fun e w' => e = .returned (.tuple #[.int .u64 0, .int .u64 (m : Int)]) ∧ w' = w) := HM
  clear HM
  go_enter Tryz.func132, Tryz.ntmps132
  go_wp2_with (go_at_call 169; refine HM2.out.mono ?_; rintro e w1 ⟨rfl, e1⟩; subst e1)
  refine bodyPost_ret (v := .tuple #[.int .u64 0, .int .u64 (m : Int)]) (by simp [results, Tryz.results132, go_sem]; try rfl) rfl ?_
  exact ⟨rfl, rfl⟩
/-- the row while it is filled up -/
def fillV (v : Int) (m k : Nat) : List Value := (List.range m).map fun i => if i < k then .int .u64 v else .int .u64 0
theorem fillV_len (v : Int) (m k : Nat) : (fillV v m k).length = m := by simp [fillV]
theorem fillV_get {v : Int} {m k i : Nat} (h : i < m) (hk : i < k) : (fillV v m k)[i]? = some (.int .u64 v) := by
  unfold fillV
  rw [List.getElem?_map, List.getElem?_range h]
  simp [hk]
theorem fillV_zero (v : Int) (m : Nat) : fillV v m 0 = List.replicate m (.int .u64 0) := by
  unfold fillV
  apply List.ext_getElem <;> simp
theorem fillV_end (v : Int) (m : Nat) : fillV v m m = (List.replicate m v).map encW := by
  unfold fillV
  apply List.ext_getElem
  · simp
  · intro i h1 h2
    simp at h1
    simp [h1]
theorem fillV_splice {v : Int} {m k c : Nat} (h : k + c ≤ m) : splice (fillV v m k) k (List.replicate c (.int .u64 v)) = fillV v m (k + c) := by
  unfold splice
  apply List.ext_getElem?
  intro i
  rw [List.length_replicate]
  by_cases h1 : i < k
  · rw [List.getElem?_append_left (by rw [List.length_take, fillV_len]; omega), List.getElem?_take_of_lt h1, fillV_get (by omega) h1, fillV_get (by omega) (by omega)]
  · rw [List.getElem?_append_right (by rw [List.length_take, fillV_len]; omega), List.length_take, fillV_len, Nat.min_eq_left (by omega)]
    by_cases h2 : i < k + c
    · rw [List.getElem?_append_left (by rw [List.length_replicate]; omega), List.getElem?_replicate, if_pos (by omega), fillV_get (by omega) h2]
    · rw [List.getElem?_append_right (by rw [List.length_replicate]; omega), List.length_replicate, List.getElem?_drop]
      unfold fillV
      rw [List.getElem?_map, List.getElem?_map]
      have e : k + c + (i - k - c) = i := by omega
      rw [e]
      by_cases h3 : i < m
      · rw [List.getElem?_range h3]
        simp [h1, h2]
      · rw [List.getElem?_eq_none (by simpa using h3)]
        rfl
set_option maxRecDepth 100000 in
set_option maxHeartbeats 4000000 in
theorem repeat_any (bx ox xc m : Nat) (v : Int) (w : World) (hm : m ≤ 60000) (hx : w.cell? ⟨bx, ox, none⟩ = some (.int .u64 v)) :
    Calls Tryz.prog 90 #[.slice (some ⟨bx, ox, none⟩) 1 xc, .int .i64 (m : Int)] w fun e w' => e = .returned (.slice (some ⟨w.heap.size, 0, none⟩) m m) ∧
      w'.ownsRow w.heap.size 34 1 (.slice (some ⟨w.heap.size, 0, none⟩) m m) m ((List.replicate m v).map encW) ∧ Below w.heap.size w w' := by
  have HM := Lib.hid (fun W => mul_any m W hm)
  have hbx : bx < w.heap.size := World.block_lt_of_cell? _ _ hx
  have hm0 : (0 : Int) ≤ (m : Int) := by omega
  have hm1 : (m : Int) ≤ 60000 := by omega
  have HV := Lib.hid hx
  clear hx
  go_enter Tryz.func90, Tryz.ntmps90
  go_upto_region 6 with (go_at_call 132; refine (HM.out _).mono ?_; rintro e w1 ⟨rfl, rfl⟩)
  go_upto_region 7 with (at_make; go_must ((with_reducible refine wpList_mk w.heap.size 34 _ 1 8 elem_u64 Tryz.underlying41 m ?_ ?_ ?_ ?_ ?_ ?_ ?_ ?_); rotate_left 4; (· rfl); (· rfl); (· exact ⟨by simp, by simp, by omega, by omega, by simp⟩); intro wm hown hbl hszm; (have Hmo := Lib.hid hown; have Hmb := Lib.hid hbl; clear hown hbl)))
  have hz0 : (madeCells (Value.int .u64 0).cells (m * 1)).toList = fillV v m 0 := by
    show (madeCells #[Value.int .u64 0] (m * 1)).toList = _
    rw [Nat.mul_one, toList_madeCells_one, fillV_zero]
  obtain ⟨hraw, -, -⟩ := owns_raw (by have := Hmo.out; rw [hz0] at this; exact this)
  have HRAW := Lib.hid hraw
  have HBM := Lib.hid Hmb.out
  clear Hmo Hmb hz0 hraw
  by_cases h0 : m = 0
  · subst h0
    go_wp2_with (refine wpList_copy_nothing rfl (.tmp 31) (.tmp 32) 41 41 rfl 34 Tryz.underlying41 (by kernel_rfl) (some ⟨w.heap.size, 0, none⟩) (some ⟨bx, ox, none⟩) 0 0 1 xc ?_ ?_ rfl ?_; (· rfl); (· rfl))
    refine wp_loop_rounds 1 ?_
    rw [rounds_succ]
    go_wp2
    go_ret
    exact ⟨rfl, raw_owns HRAW.out (Nat.le_refl _) (by simp) (by omega), HBM.out⟩
  · have hpos : 0 < m := by omega
    have HC1 := Lib.hid (show ∀ j u, (List.replicate 1 (Value.int .u64 v))[j]? = some u → wm.cell? ((⟨bx, ox, none⟩ : Addr).add j) = some u from fun j u hu => by
      have hj : j = 0 := by
        have h9 := (List.getElem?_eq_some_iff.1 hu).1
        simp at h9
        omega
      subst hj
      simp at hu
      subst hu
      exact cell_later HBM.out HV.out)
    have HF1 := Lib.hid (show 0 + (List.replicate 1 (Value.int .u64 v)).length ≤ (fillV v m 0).length by rw [fillV_len]; simp; omega)
    have HN1 := Lib.hid (show (List.replicate 1 (Value.int .u64 v)).length = Nat.min 1 m from (by show 1 = min 1 m; omega))
    have HO1 := Lib.hid (show ∀ u ∈ List.replicate 1 (Value.int .u64 v), u.oneCell' = true from fun u hu => by rw [List.eq_of_mem_replicate hu]; rfl)
    go_wp2_with (refine wpList_copy_splice rfl (.tmp 31) (.tmp 32) 41 41 rfl 34 Tryz.underlying41 (by kernel_rfl) (some ⟨w.heap.size, 0, none⟩) (some ⟨bx, ox, none⟩) m m 1 xc ?_ ?_ w.heap.size 0 (fillV v m 0) 34 HRAW.out (List.replicate 1 (.int .u64 v)) HN1.out (fun _ => ⟨rfl, _, rfl, HC1.out⟩) HF1.out HO1.out w.heap.size w HBM.out (Nat.le_refl _) ?_; (· rfl); (· rfl); intro w2 hg2 hb2; (have HG2 := hg2); (have HB2 := Lib.hid hb2); clear hb2)
    have HG3 := Lib.hid (by have := HG2; rw [fillV_splice (k := 0) (c := 1) (by omega), Nat.zero_add] at this; exact this : w2.heap[w.heap.size]? = some (.cells (fillV v m 1).toArray 34 (0, 0)))
    clear HG2 HRAW
    go_loopg [8] m (fun gg v8 wr => ∃ k : Nat, 1 ≤ k ∧ k ≤ m ∧ m - k ≤ gg ∧ v8 = .int .i64 k ∧ Aside (wr.heap[w.heap.size]? = some (.cells (fillV v m k).toArray 34 (0, 0))) ∧ Aside (Below w.heap.size w wr))
    case atStart => exact ⟨1, Nat.le_refl _, by omega, by omega, rfl, HG3.out, HB2.out⟩
    case round =>
      obtain ⟨k, hk1, hk, hgg, rfl, HG, HB⟩ := hrel
      by_cases hlt : k < m
      · have hlt3 : (k : Int) < (m : Int) := by omega
        have hk0 : (0 : Int) ≤ (k : Int) := by omega
        obtain ⟨c, hc⟩ : ∃ c, c = min k (m - k) := ⟨_, rfl⟩
        have HSP := Lib.hid (fillV_splice (v := v) (m := m) (k := k) (c := c) (by omega))
        have hc1 : 1 ≤ c := by omega
        have hcm : k + c ≤ m := by omega
        have hkm : (k : Int) + (c : Int) = ((k + c : Nat) : Int) := by omega
        have HCc := Lib.hid (fun W5 (hz : Below wr.heap.size wr W5) => show ∀ j u, (List.replicate c (Value.int .u64 v))[j]? = some u → W5.cell? ((⟨w.heap.size, 0, none⟩ : Addr).add j) = some u from fun j u hu => by
          have hj : j < c := by
            have h9 := (List.getElem?_eq_some_iff.1 hu).1
            simpa using h9
          rw [List.getElem?_replicate, if_pos hj] at hu
          cases hu
          rw [Addr.add_lit, Nat.zero_add]
          have h8 := fillV_get (v := v) (m := m) (k := k) (i := j) (by omega) (by omega)
          have h7 := (raw_owns (base := w.heap.size) (n := m) HG.out (Nat.le_refl _) (fillV_len _ _ _) hm).cellAt j (by omega)
          exact cell_later hz (h7.trans h8))
        have HFc := Lib.hid (show k + (List.replicate c (Value.int .u64 v)).length ≤ (fillV v m k).length by rw [fillV_len, List.length_replicate]; exact hcm)
        have HNc := Lib.hid (show (List.replicate c (Value.int .u64 v)).length = Nat.min k (m - k) by rw [List.length_replicate, hc])
        have HOc := Lib.hid (show ∀ u ∈ List.replicate c (Value.int .u64 v), u.oneCell' = true from fun u hu => by rw [List.eq_of_mem_replicate hu]; rfl)
        have hkm1 : (k : Int) ≤ 60000 := by omega
        have HGG := Lib.hid hgg
        clear hc hgg
        go_upto_region 9 with (fail)
        refine wp_region_ext_tail1 6 (by kernel_rfl) (by kernel_rfl) (fun _ _ _ h => h) ?_
        simp only [List.take_succ_cons, List.take_zero, List.drop_succ_cons, List.drop_zero, Act.put, Act.eval, List.setIfInBounds_toArray, List.set_cons_zero, List.set_cons_succ]
        repeat (go_big_quiet_step (fail))
        refine wpQuiet_nil ?_
        rintro _ ⟨p5, rfl⟩
        have HB5 := Lib.hid (below_ext wr p5)
        generalize ext wr p5 = w5 at HB5 ⊢
        simp only [Array.getD_eq_getD_getElem?, List.getElem?_toArray, List.getElem?_cons_succ, List.getElem?_cons_zero, Option.getD_some]
        have HKM := Lib.hid (And.intro hk1 (And.intro hcm hkm))
        have HG5 := Lib.hid (show w5.heap[w.heap.size]? = some (.cells (fillV v m k).toArray 34 (0, 0)) from (HB5.out.block _ (by have := (Array.getElem?_eq_some_iff.1 HG.out).1; exact this)).trans HG.out)
        have HC5 := Lib.hid (HCc.out w5 HB5.out)
        have HB55 := Lib.hid (HB.out.st HB5.out)
        have hkc : (k : Int) + (c : Int) ≤ 60000 := by omega
        clear HCc hkm hk1 hk hlt hcm hkm1
        go_wp2_with (refine wpList_copy_splice rfl (.tmp 41) (.tmp 44) 41 41 rfl 34 Tryz.underlying41 (by kernel_rfl) (some ⟨w.heap.size, k, none⟩) (some ⟨w.heap.size, 0, none⟩) (m - k) (m - k) k m ?_ ?_ w.heap.size k (fillV v m k) 34 HG5.out (List.replicate c (.int .u64 v)) HNc.out (fun _ => ⟨rfl, _, rfl, HC5.out⟩) HFc.out HOc.out w.heap.size w HB55.out (Nat.le_refl _) ?_; (· rfl); (· rfl); intro w6 hg6 hb6; (have HG6 := hg6); (have HB6 := Lib.hid hb6); clear hb6; simp only [List.length_replicate])
        have HG7 := Lib.hid (by have := HG6.out; rw [HSP.out] at this; exact this : w6.heap[w.heap.size]? = some (.cells (fillV v m (k + c)).toArray 34 (0, 0)))
        obtain ⟨hk1, hcm, hkm⟩ := HKM.out
        go_roundg (m - (k + c))
        case measure => (have := HGG.out; omega)
        case rel => exact ⟨k + c, by omega, HKM.out.2.1, Nat.le_refl _, by go_num, HG7.out, HB6.out⟩
      · obtain rfl : m = k := by omega
        go_wp2
        go_ret
        refine ⟨rfl, raw_owns (xs := (List.replicate m v).map encW) ?_ (Nat.le_refl _) (by simp) (by omega), HB.out⟩
        have := HG.out
        rwa [fillV_end] at this
end Go.Proofs.YtkdomobedfhhgaaGreat
end
