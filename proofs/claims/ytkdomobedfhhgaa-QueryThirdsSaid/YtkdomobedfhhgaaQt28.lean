/-
  Walks of package rank that the hierarchies want: which lists are ranks, and their inverse.
-/
import Derived.Test.YtkdomobedfhhgaaProg
import Derived.Test.YtkdomobedfhhgaaQt19
import Derived.Deep.RegionLaw
set_option linter.unusedVariables false
set_option linter.unusedSimpArgs false
set_option linter.unnecessarySimpa false
namespace Go.Proofs.Ytkdomobedfhhgaa
open Go.Proofs Go.RowKit Go.Shelf

def rngI (n : Nat) : List Int := (List.range n).map Int.ofNat
theorem rngI_length (n : Nat) : (rngI n).length = n := by simp [rngI]
theorem mem_rngI {n : Nat} {x : Int} : x ∈ rngI n ↔ 0 ≤ x ∧ x < n := by
  unfold rngI
  rw [List.mem_map]
  constructor
  · rintro ⟨a, ha, rfl⟩
    have := List.mem_range.1 ha
    exact ⟨Int.natCast_nonneg _, by show (a : Int) < n; omega⟩
  · rintro ⟨h0, h1⟩
    exact ⟨x.toNat, List.mem_range.2 (by omega), by show ((x.toNat : Nat) : Int) = x; omega⟩
theorem nodup_rngI (n : Nat) : (rngI n).Nodup := by
  unfold rngI
  refine List.Pairwise.map _ ?_ List.nodup_range
  intro a b hab h
  exact hab (Int.ofNat.inj h)
theorem sub_length : ∀ (a b : List Int), a.Nodup → (∀ x ∈ a, x ∈ b) → a.length ≤ b.length
  | [], _, _, _ => by simp
  | x :: r, b, hn, hs => by
    have hx := hs x (by simp)
    obtain ⟨h1, h2⟩ := List.nodup_cons.1 hn
    have h3 := sub_length r (b.erase x) h2 (fun y hy => (List.mem_erase_of_ne (by rintro rfl; exact h1 hy)).2 (hs y (by simp [hy])))
    have h4 := List.length_erase_of_mem hx
    have h5 := List.length_pos_of_mem hx
    rw [List.length_cons]
    omega

/-- is it a rank? -/
def rankB (l : List Int) : Bool := (List.range l.length).all fun i => l.contains (i : Int)
theorem rankB_true {l : List Int} (h : ∀ x ∈ rngI l.length, x ∈ l) : rankB l = true := by
  unfold rankB
  rw [List.all_eq_true]
  intro i hi
  rw [List.contains_iff_mem]
  exact h _ (mem_rngI.2 ⟨by omega, by have := List.mem_range.1 hi; omega⟩)
theorem rankB_sub {l : List Int} (h : rankB l = true) : ∀ x ∈ rngI l.length, x ∈ l := by
  intro x hx
  obtain ⟨h0, h1⟩ := mem_rngI.1 hx
  unfold rankB at h
  rw [List.all_eq_true] at h
  have := h x.toNat (List.mem_range.2 (by omega))
  rw [List.contains_iff_mem] at this
  rwa [Int.toNat_of_nonneg h0] at this

/-- the first k are within, and each once -/
def okPre (l : List Int) (k : Nat) : Prop := ∀ i (h : i < l.length), i < k → 0 ≤ l[i] ∧ l[i] < l.length ∧ ∀ j (h2 : j < i), l[j] ≠ l[i]
theorem okPre_zero (l : List Int) : okPre l 0 := fun _ _ h => absurd h (Nat.not_lt_zero _)
theorem okPre_succ {l : List Int} {k : Nat} (h : okPre l k) (hk : k < l.length) (h0 : 0 ≤ l[k]) (h1 : l[k] < l.length) (h2 : ∀ j (hj : j < k), l[j] ≠ l[k]) : okPre l (k + 1) := by
  intro i hi hik
  by_cases e : i = k
  · subst e; exact ⟨h0, h1, h2⟩
  · exact h i hi (by omega)
theorem okPre_nodup {l : List Int} (h : okPre l l.length) : l.Nodup := by
  unfold List.Nodup
  rw [List.pairwise_iff_getElem]
  intro i j hi hj hij
  exact (h j hj hj).2.2 i hij
theorem rankB_ok {l : List Int} (h : okPre l l.length) : rankB l = true := by
  refine rankB_true fun x hx => ?_
  by_cases hm : x ∈ l
  · exact hm
  · have h1 := sub_length (x :: l) (rngI l.length) (List.nodup_cons.2 ⟨hm, okPre_nodup h⟩) (fun y hy => by
      rcases List.mem_cons.1 hy with rfl | hy
      · exact hx
      · obtain ⟨i, hi, rfl⟩ := List.mem_iff_getElem.1 hy
        have := h i hi hi
        exact mem_rngI.2 ⟨this.1, this.2.1⟩)
    rw [rngI_length] at h1
    simp at h1
    omega
theorem rankB_in {l : List Int} (h : rankB l = true) : ∀ x ∈ l, 0 ≤ x ∧ x < l.length := by
  intro x hx
  by_cases hr : x ∈ rngI l.length
  · exact mem_rngI.1 hr
  · have h1 := sub_length (rngI l.length) (l.erase x) (nodup_rngI _) (fun y hy => (List.mem_erase_of_ne (by rintro rfl; exact hr hy)).2 (rankB_sub h y hy))
    rw [rngI_length, List.length_erase_of_mem hx] at h1
    have := List.length_pos_of_mem hx
    omega
theorem rankB_out {l : List Int} {x : Int} (hx : x ∈ l) (h : x < 0 ∨ (l.length : Int) ≤ x) : rankB l = false := by
  cases e : rankB l with
  | false => rfl
  | true => have := rankB_in e x hx; omega
theorem rankB_dup {l : List Int} {j k : Nat} (hk : k < l.length) (hj : j < k) (h : l[j] = l[k]) : rankB l = false := by
  cases e : rankB l with
  | false => rfl
  | true =>
    have h1 := sub_length (rngI l.length) (l.eraseIdx k) (nodup_rngI _) (fun y hy => by
      obtain ⟨i, hi, rfl⟩ := List.mem_iff_getElem.1 (rankB_sub e y hy)
      rw [List.mem_eraseIdx_iff_getElem]
      by_cases c : i = k
      · subst c; exact ⟨j, by omega, by omega, h⟩
      · exact ⟨i, hi, c, rfl⟩)
    rw [rngI_length, List.length_eraseIdx_of_lt hk] at h1
    omega
theorem rankB_nodup {l : List Int} (h : rankB l = true) : okPre l l.length := by
  intro i hi _
  have h1 := rankB_in h l[i] (List.getElem_mem hi)
  refine ⟨h1.1, h1.2, fun j hj e => ?_⟩
  rw [rankB_dup hi hj e] at h
  cases h

/-- which have come among the first k -/
def metL (l : List Int) (k : Nat) : List Bool := (List.range l.length).map fun v => (l.take k).contains ((v : Nat) : Int)
theorem metL_length (l : List Int) (k : Nat) : (metL l k).length = l.length := by simp [metL]
theorem metL_zero (l : List Int) : metL l 0 = List.replicate l.length false := by
  unfold metL
  apply List.ext_getElem
  · simp
  · intro i h1 h2
    simp
theorem metL_get {l : List Int} {k v : Nat} (hv : v < l.length) : (metL l k)[v]? = some ((l.take k).contains (v : Int)) := by
  unfold metL
  rw [List.getElem?_map, List.getElem?_range hv]
  rfl
theorem metL_set {l : List Int} {k v : Nat} (hk : k < l.length) (hv : l[k] = (v : Int)) (hl : v < l.length) : (metL l k).set v true = metL l (k + 1) := by
  apply List.ext_getElem?
  intro i
  rw [List.getElem?_set]
  by_cases hi : i < l.length
  · rw [metL_get hi, metL_get hi, List.take_succ_eq_append_getElem hk]
    by_cases e : v = i
    · subst e
      simp [metL_length, hl, hv]
    · rw [if_neg e]
      congr 1
      rw [List.contains_eq_mem, List.contains_eq_mem]
      congr 1
      rw [List.mem_append, List.mem_singleton, hv]
      simp
      omega
  · rw [if_neg (by omega), List.getElem?_eq_none (by rw [metL_length]; omega), List.getElem?_eq_none (by rw [metL_length]; omega)]
theorem metL_no {l : List Int} {k v : Nat} (hk : k < l.length) (hv : l[k] = (v : Int)) (h : (l.take k).contains (v : Int) = false) : ∀ j (hj : j < k), l[j] ≠ l[k] := by
  intro j hj e
  have : (v : Int) ∈ l.take k := by
    rw [← hv, ← e]
    rw [List.mem_take_iff_getElem]
    exact ⟨j, by omega, rfl⟩
  rw [List.contains_eq_mem] at h
  simp [this] at h
theorem metL_yes {l : List Int} {k v : Nat} (hk : k < l.length) (hv : l[k] = (v : Int)) (h : (l.take k).contains (v : Int) = true) : rankB l = false := by
  rw [List.contains_iff_mem, List.mem_take_iff_getElem] at h
  obtain ⟨j, hj, e⟩ := h
  exact rankB_dup hk (j := j) (by omega) (by rw [hv]; exact e)

/-- the inverse, as far as k -/
def invK (l : List Int) : Nat → List Int
  | 0 => List.replicate l.length 0
  | k + 1 => (invK l k).set (l.getD k 0).toNat k
theorem invK_length (l : List Int) : ∀ k, (invK l k).length = l.length
  | 0 => by simp [invK]
  | k + 1 => by simp [invK, invK_length l k]
def invL (l : List Int) : List Int := if rankB l then invK l l.length else []

theorem elem_int : Elem Try.prog 3 (.int .i64 0) 1 8 := ⟨by kernel_rfl, rfl, by decide⟩
set_option maxHeartbeats 1000000 in
theorem rkRight_any (l : List Int) (ao : Option Addr) (cap : Nat) (w : World) (hl : l.length ≤ 1000000) (hc : Cel w ao (l.map encI)) :
    Calls Try.prog 33 #[.slice ao l.length cap] w fun e w' => e = .returned (.bool (rankB l)) ∧ Below w.heap.size w w' := by
  have HC := Lib.hid hc
  clear hc
  have HOK := Lib.hid (@rankB_ok l)
  have HOUT := Lib.hid (fun k (hk : k < l.length) (h : l[k] < 0 ∨ (l.length : Int) ≤ l[k]) => rankB_out (List.getElem_mem hk) h)
  have HYES := Lib.hid (fun (k v : Nat) (hk : k < l.length) h1 h2 => @metL_yes l k v hk h1 h2)
  generalize rankB l = r at *
  go_enter Try.func33, Try.ntmps33
  go_wp2_with (at_make; go_must ((with_reducible refine wpList_mk w.heap.size 4 _ 1 1 elem_bool Try.underlying64 l.length ?_ ?_ ?_ ?_ ?_ ?_ ?_ ?_); rotate_left 4; (· rfl); (· rfl); (· exact ⟨by simp, by simp, by omega, by omega, by simp⟩); intro wm hown hbl hszm; (have Hmo := Lib.hid hown; have Hmb := Lib.hid hbl; clear hown hbl)))
  have HZ0 := Lib.hid (show (madeCells (Value.bool false).cells (l.length * 1)).toList = (metL l 0).map encB by
    show (madeCells #[Value.bool false] (l.length * 1)).toList = _
    rw [Nat.mul_one, toList_madeCells_one, metL_zero, List.map_replicate])
  go_loopg [11] l.length (fun gg i wr => ∃ k : Nat, k ≤ l.length ∧ l.length - k ≤ gg ∧ i = .int .i64 k ∧ Aside (okPre l k) ∧ Aside (w.heap.size < wr.heap.size) ∧
    Aside (wr.ownsRow w.heap.size 4 1 (.slice (some ⟨w.heap.size, 0, none⟩) l.length l.length) l.length ((metL l k).map encB)) ∧ Aside (Below w.heap.size w wr))
  case atStart => exact ⟨0, Nat.zero_le _, by omega, rfl, okPre_zero l, hszm, by have := Hmo.out; rw [HZ0.out] at this; exact this, Hmb.out⟩
  case round =>
    obtain ⟨k, hk, hg, rfl, HP, HZ, HO, HB⟩ := hrel
    clear HZ0
    by_cases hlt : k < l.length
    · obtain ⟨b, o, hao, hcell⟩ := (HC.out.go HB.out).at hlt
      subst hao
      have hlt3 : (k : Int) < (l.length : Int) := by omega
      have hk0 : (0 : Int) ≤ (k : Int) := by omega
      have HOUT2 := Lib.hid (HOUT.out k hlt)
      have HYES2 := Lib.hid (fun v h1 h2 => HYES.out k v hlt h1 h2)
      have HPS := Lib.hid (fun h0 h1 h2 => okPre_succ HP.out hlt h0 h1 h2)
      have HNO := Lib.hid (fun v h1 h2 => @metL_no l k v hlt h1 h2)
      have HST := Lib.hid (fun v h1 h2 => @metL_set l k v hlt h1 h2)
      have HGT := Lib.hid (fun v h => @metL_get l k v h)
      generalize hx : l[k] = x at *
      by_cases h0 : x < 0
      · have HR := Lib.hid (HOUT2.out (.inl h0))
        go_wp2
        go_ret
        exact ⟨by rw [HR.out]; rfl, by have := HB.out; repeat (first | exact Below.refl _ _ | refine Below.al ?_ _ | refine Below.dr ?_ _ | refine Below.drew ?_ | assumption | (refine Below.st ?_ (by assumption)))⟩
      · by_cases h1 : (l.length : Int) ≤ x
        · have HR := Lib.hid (HOUT2.out (.inr h1))
          go_wp2
          go_ret
          exact ⟨by rw [HR.out]; rfl, by have := HB.out; repeat (first | exact Below.refl _ _ | refine Below.al ?_ _ | refine Below.dr ?_ _ | refine Below.drew ?_ | assumption | (refine Below.st ?_ (by assumption)))⟩
        · obtain ⟨v, rfl⟩ : ∃ v : Nat, x = (v : Int) := ⟨x.toNat, by omega⟩
          have hv : v < l.length := by omega
          have hv3 : (v : Int) < (l.length : Int) := by omega
          have hv0 : (0 : Int) ≤ (v : Int) := by omega
          have j4 : wr.cell? ⟨w.heap.size, v, none⟩ = some (.bool ((l.take k).contains (v : Int))) := by
            rw [HO.out.cellAt v (by omega), List.getElem?_map, HGT.out v hv]; rfl
          have j6 := HO.out.frozenAt v
          cases hq : (l.take k).contains (v : Int) with
          | true =>
            have HR := Lib.hid (HYES2.out v rfl hq)
            rw [hq] at j4
            clear hq
            go_wp2
            go_ret
            exact ⟨by rw [HR.out]; rfl, by have := HB.out; repeat (first | exact Below.refl _ _ | refine Below.al ?_ _ | refine Below.dr ?_ _ | refine Below.drew ?_ | assumption | (refine Below.st ?_ (by assumption)))⟩
          | false =>
            have HPS2 := Lib.hid (HPS.out hv0 hv3 (HNO.out v rfl hq))
            have HO2 := Lib.hid (show (wr.setCell ⟨w.heap.size, v, none⟩ (encB true)).ownsRow w.heap.size 4 1 (.slice (some ⟨w.heap.size, 0, none⟩) l.length l.length) l.length ((metL l (k + 1)).map encB) by
              have := (HO.out.stored v (encB true)).1
              rw [← List.map_set, HST.out v rfl hv] at this
              exact this)
            rw [hq] at j4
            clear hq hx
            go_wp2
            go_roundg (l.length - (k + 1))
            case measure => omega
            case rel => exact ⟨k + 1, by omega, by omega, by go_num, HPS2.out, (show w.heap.size < (wr.setCell ⟨w.heap.size, v, none⟩ (encB true)).heap.size by have := HZ.out; simpa [World.setCell] using this), HO2.out, HB.out.setCell (Nat.le_refl _) _⟩
    · obtain rfl : k = l.length := by omega
      have HR := Lib.hid (HOK.out HP.out)
      go_wp2
      go_ret
      exact ⟨by rw [HR.out]; rfl, HB.out⟩
/-- a row of numbers is handed back -/
def IntsPost (w : World) (r : List Int) (e : Ending) (w' : World) : Prop :=
  ∃ ao cap, e = .returned (.slice ao r.length cap) ∧ Cel w' ao (r.map encI) ∧ Below w.heap.size w w' ∧ ∀ k, (Value.slice ao r.length cap).ownBlock = some k → w.heap.size ≤ k
set_option maxHeartbeats 1000000 in
theorem rkInverse_any (l : List Int) (ao : Option Addr) (cap : Nat) (w : World) (hl : l.length ≤ 1000000) (hc : Cel w ao (l.map encI)) :
    Calls Try.prog 19 #[.slice ao l.length cap] w (IntsPost w (invL l)) := by
  have HC := Lib.hid hc
  have HR := Lib.hid (fun W h => rkRight_any l ao cap W hl h)
  clear hc
  cases hr : rankB l with
  | false =>
    have HV := Lib.hid (show invL l = [] by unfold invL; rw [hr]; rfl)
    generalize invL l = r at *
    rw [hr] at HR
    clear hr
    go_enter Try.func19, Try.ntmps19
    go_wp2_with (go_at_call 33; refine (HR.out _ HC.out).mono ?_; rintro e w1 ⟨rfl, hb1⟩)
    go_ret
    exact ⟨none, 0, by rw [HV.out]; rfl, by rw [HV.out]; exact Cel.nil _ _, hb1, fun k hk => by cases hk⟩
  | true =>
    have HV := Lib.hid (show invL l = invK l l.length by unfold invL; rw [hr]; rfl)
    have HIN := Lib.hid (fun k (hk : k < l.length) => rankB_in hr l[k] (List.getElem_mem hk))
    have HS := Lib.hid (fun k (hk : k < l.length) => (show invK l (k + 1) = (invK l k).set l[k].toNat k by simp [invK, List.getD, hk]))
    have HLN := Lib.hid (invK_length l)
    have HZ := Lib.hid (show invK l 0 = List.replicate l.length 0 from rfl)
    generalize invL l = r at *
    generalize invK l = I at *
    rw [hr] at HR
    clear hr
    go_enter Try.func19, Try.ntmps19
    go_wp2_with fail
    refine (HR.out _ HC.out).mono ?_
    rintro e w1 ⟨rfl, hb1⟩
    have HB1 := Lib.hid hb1
    have HC1 := Lib.hid (HC.out.go hb1)
    clear hb1
    go_wp2_with (at_make; go_must ((with_reducible refine wpList_mk w1.heap.size 3 _ 1 8 elem_int Try.underlying25 l.length ?_ ?_ ?_ ?_ ?_ ?_ ?_ ?_); rotate_left 4; (· rfl); (· rfl); (· exact ⟨by simp, by simp, by omega, by omega, by simp⟩); intro wm hown hbl hszm; (have Hmo := Lib.hid hown; have Hmb := Lib.hid hbl; clear hown hbl)))
    have HZ0 := Lib.hid (show (madeCells (Value.int .i64 0).cells (l.length * 1)).toList = (I 0).map encI by
      show (madeCells #[Value.int .i64 0] (l.length * 1)).toList = _
      rw [Nat.mul_one, toList_madeCells_one, HZ.out, List.map_replicate])
    go_loopg [14] l.length (fun gg i wr => ∃ k : Nat, k ≤ l.length ∧ l.length - k ≤ gg ∧ i = .int .i64 k ∧ Aside (w1.heap.size < wr.heap.size) ∧
      Aside (wr.ownsRow w1.heap.size 3 1 (.slice (some ⟨w1.heap.size, 0, none⟩) l.length l.length) l.length ((I k).map encI)) ∧ Aside (Below w1.heap.size w1 wr))
    case atStart => exact ⟨0, Nat.zero_le _, by omega, rfl, hszm, by have := Hmo.out; rw [HZ0.out] at this; exact this, Hmb.out⟩
    case round =>
      obtain ⟨k, hk, hg, rfl, HZ2, HO, HB⟩ := hrel
      clear HZ0
      by_cases hlt : k < l.length
      · obtain ⟨b, o, hao, hcell⟩ := (HC1.out.go HB.out).at hlt
        subst hao
        have hlt3 : (k : Int) < (l.length : Int) := by omega
        have hk0 : (0 : Int) ≤ (k : Int) := by omega
        have hin := HIN.out k hlt
        have HS2 := Lib.hid (HS.out k hlt)
        generalize l[k] = x at *
        obtain ⟨v, rfl⟩ : ∃ v : Nat, x = (v : Int) := ⟨x.toNat, by omega⟩
        have hv : v < l.length := by omega
        obtain ⟨u, j4⟩ : ∃ u, wr.cell? ⟨w1.heap.size, v, none⟩ = some u := by
          rw [HO.out.cellAt v (by omega), List.getElem?_map, List.getElem?_eq_getElem (by rw [HLN.out]; omega)]
          exact ⟨_, rfl⟩
        have j6 := HO.out.frozenAt v
        have HO2 := Lib.hid (show (wr.setCell ⟨w1.heap.size, v, none⟩ (encI k)).ownsRow w1.heap.size 3 1 (.slice (some ⟨w1.heap.size, 0, none⟩) l.length l.length) l.length ((I (k + 1)).map encI) by
          have := (HO.out.stored v (encI k)).1
          rw [← List.map_set] at this
          rw [HS2.out]
          exact this)
        go_wp2
        go_roundg (l.length - (k + 1))
        case measure => omega
        case rel => exact ⟨k + 1, by omega, by omega, by go_num, (show w1.heap.size < (wr.setCell ⟨w1.heap.size, v, none⟩ (encI k)).heap.size by have := HZ2.out; simpa [World.setCell] using this), HO2.out, HB.out.setCell (Nat.le_refl _) _⟩
      · obtain rfl : k = l.length := by omega
        obtain ⟨ao8, cap8, e8, hc8⟩ := Cel.of_owns HO.out
        cases e8
        have HC8 := Lib.hid hc8
        have HRL := Lib.hid (show r.length = l.length by rw [HV.out]; exact HLN.out _)
        clear hc8
        go_wp2
        go_ret
        exact ⟨_, l.length, by rw [HRL.out]; rfl, by rw [HV.out]; exact HC8.out, HB1.out.st HB.out, fun k hk => by cases hk; exact HB1.out.size⟩

end Go.Proofs.Ytkdomobedfhhgaa
