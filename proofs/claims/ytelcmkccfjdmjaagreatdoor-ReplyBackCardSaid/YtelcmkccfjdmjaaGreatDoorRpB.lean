/-
  Walks: the document's text of a route, and strings.Cut at one sign.
-/
import Derived.Test.YtelcmkccfjdmjaaGreatDoorProg
import Derived.Test.YtelcmkccfjdmjaaGreatDoorRpA
namespace Go.Proofs.YtelcmkccfjdmjaaGreatDoor
open Go.Proofs Go.RowKit Go.Shelf Go.Sort

theorem refedges_any (l : List Int) (ao : Option Addr) (cap : Nat) (w : World) (hl : l.length ≤ 9223372036854775807) (hc : Cel w ao (l.map encI)) :
    Calls Tryz.prog 53 #[.slice ao l.length cap] w fun e w' => e = .returned (.bool (!l.any fun e => decide (e < 0))) ∧ w' = w := by
  have HC := Lib.hid hc
  clear hc
  have HT := Lib.hid (fun k (h : k < l.length) (e : l[k] < 0) => (by rw [Bool.not_eq_false', List.any_eq_true]; exact ⟨l[k], List.getElem_mem h, by simpa using e⟩ : (!l.any fun e => decide (e < 0)) = false))
  have HF := Lib.hid (fun (h : ∀ j (hj : j < l.length), ¬ l[j] < 0) => (by
    rw [Bool.not_eq_true', List.any_eq_false]
    intro x hx
    obtain ⟨j, hj, rfl⟩ := List.getElem_of_mem hx
    simpa using h j hj : (!l.any fun e => decide (e < 0)) = true))
  generalize (!l.any fun e => decide (e < 0)) = r at *
  go_enter Tryz.func53, Tryz.ntmps53
  go_wp2
  go_loopg [3] l.length (fun g i wr => ∃ k : Nat, k ≤ l.length ∧ l.length - k ≤ g ∧ i = .int .i64 k ∧ wr = w ∧ Aside (∀ j (hj : j < l.length), j < k → ¬ l[j] < 0))
  case atStart => exact ⟨0, Nat.zero_le _, by omega, rfl, rfl, fun j _ h => absurd h (Nat.not_lt_zero _)⟩
  case round =>
    obtain ⟨k, hk, hg, rfl, rfl, HA⟩ := hrel
    by_cases hlt : k < l.length
    · have hlt3 : (k : Int) < (l.length : Int) := by omega
      have hk0 : (0 : Int) ≤ (k : Int) := by omega
      obtain ⟨b, o, hao, hcell⟩ := HC.out.at hlt
      subst hao
      have H1 := Lib.hid (HT.out k hlt)
      have H2 := Lib.hid (fun h : ¬ l[k] < 0 => (fun j (h1 : j < l.length) (h2 : j < k + 1) => (by
        by_cases e : j = k
        · subst e; exact h
        · have := HA.out j h1 (by omega); omega : ¬ l[j] < 0)))
      generalize l[k] = y at *
      by_cases e : y < 0
      · have HR := Lib.hid (H1.out e)
        go_wp2
        go_ret
        exact ⟨by rw [HR.out]; rfl, rfl⟩
      · have HR := Lib.hid (H2.out e)
        go_wp2
        go_roundg (l.length - (k + 1))
        case measure => omega
        case rel => exact ⟨k + 1, by omega, by omega, by go_num, rfl, HR.out⟩
    · obtain rfl : k = l.length := by omega
      have HR := Lib.hid (HF.out (fun j h => by have := HA.out j h h; omega))
      go_wp2
      go_ret
      exact ⟨by rw [HR.out]; rfl, rfl⟩

theorem join_snocB (c : UInt8) : ∀ (xs : List (List UInt8)) (y : List UInt8), xs ≠ [] → Lib.join (xs ++ [y]) [c] = Lib.join xs [c] ++ c :: y
  | [], _, h => absurd rfl h
  | [x], y, _ => by rw [List.singleton_append, join_two, join_single, join_single]
  | x :: z :: r, y, _ => by
    have ih := join_snocB c (z :: r) y (by simp)
    rw [List.cons_append, List.cons_append, join_two, ← List.cons_append, ih, join_two, List.append_assoc, List.cons_append]
def rtT (r : RtD) (k : Nat) : ByteArray := (printI r.w ++ ⟨#[58]⟩) ++ joinB 46 ((r.es.take k).map printI)
theorem rtT_zero (r : RtD) : rtT r 0 = printI r.w ++ ⟨#[58]⟩ := by
  unfold rtT
  rw [List.take_zero, List.map_nil]
  apply Go.WideShapes.bytes_inj
  simp [joinB_data, Lib.join]
theorem rtT_one (r : RtD) (h : 0 < r.es.length) : rtT r 1 = rtT r 0 ++ printI r.es[0] := by
  rw [rtT_zero]
  unfold rtT
  rw [List.take_succ_eq_append_getElem h, List.take_zero, List.nil_append]
  apply Go.WideShapes.bytes_inj
  simp [joinB_data, join_single]
theorem rtT_step (r : RtD) (k : Nat) (h : k < r.es.length) (hk : 0 < k) : rtT r (k + 1) = (rtT r k ++ ⟨#[46]⟩) ++ printI r.es[k] := by
  unfold rtT
  rw [List.take_succ_eq_append_getElem h, List.map_append]
  apply Go.WideShapes.bytes_inj
  simp only [ByteArray.data_append, Array.toList_append, joinB_data, List.map_append, List.map_cons, List.map_nil]
  rw [join_snocB _ _ _ (by
    intro e
    have := congrArg List.length e
    simp only [List.length_map, List.length_take, List.length_nil] at this
    omega)]
  simp

set_option maxHeartbeats 1000000 in
theorem refRoute_any (r : RtD) (ao : Option Addr) (cap : Nat) (w : World) (ht : tyRt r) (hc : Cel w ao (r.es.map encI)) :
    Calls Tryz.prog 47 #[.agg #[.slice ao r.es.length cap, .int .u64 r.w]] w fun e w' => e = .returned (.string (routeT r)) ∧ Below w.heap.size w w' := by
  obtain ⟨t0, t1, t2, t3⟩ := ht
  have HC := Lib.hid hc
  have HE := Lib.hid (fun W h => refedges_any r.es ao cap W (by omega) h)
  clear hc
  cases hn : negR r with
  | true =>
    have HV := Lib.hid (show routeT r = ByteArray.empty by unfold routeT; rw [hn]; rfl)
    have hn2 : (!r.es.any fun e => decide (e < 0)) = false := by rw [Bool.not_eq_false']; exact hn
    rw [hn2] at HE
    generalize routeT r = v at *
    clear hn hn2
    go_enter Tryz.func47, Tryz.ntmps47
    go_wp2_with fail
    obtain ⟨W, hW, c0, c1⟩ : ∃ W, W = w.alloc (Obj.cells #[.slice ao r.es.length cap, .int .u64 r.w] 48) ∧ W.cell? ⟨w.heap.size, 0, none⟩ = some (.slice ao r.es.length cap) ∧ W.cell? ⟨w.heap.size, 1, none⟩ = some (.int .u64 r.w) := ⟨_, rfl, by go_simp, by go_simp⟩
    rw [← hW]
    have HW := Lib.hid (show Below w.heap.size w W by rw [hW]; exact Below.of_al _ _)
    clear hW
    refine (HE.out _ (HC.out.go HW.out)).mono ?_
    rintro e w1 ⟨rfl, rfl⟩
    go_wp2
    go_ret
    exact ⟨by rw [HV.out]; rfl, HW.out⟩
  | false =>
    have HV := Lib.hid (show routeT r = rtT r r.es.length by unfold routeT rtT; rw [hn, List.take_length]; rfl)
    have hn2 : (!r.es.any fun e => decide (e < 0)) = true := by rw [Bool.not_eq_true']; exact hn
    rw [hn2] at HE
    have hall : ∀ e ∈ r.es, 0 ≤ e ∧ e ≤ 9223372036854775807 := by
      intro e he
      unfold negR at hn
      rw [List.any_eq_false] at hn
      have := hn e he
      simp at this
      exact ⟨by omega, (t2 e he).2⟩
    have hps := printI_size_le t0 t1
    have HIN := Lib.hid (fun k (hk : k < r.es.length) => hall r.es[k] (List.getElem_mem hk))
    have HSZ := Lib.hid (fun k (hk : k ≤ r.es.length) => (by
      unfold rtT
      rw [ByteArray.size_append, ByteArray.size_append]
      have := print_join_size (l := r.es.take k) (fun e he => by have := hall e (List.mem_of_mem_take he); omega)
      rw [List.length_take] at this
      have : (⟨#[58]⟩ : ByteArray).size = 1 := rfl
      omega : (rtT r k).size ≤ 30000000))
    have HT0 := Lib.hid (rtT_zero r)
    have HT1 := Lib.hid (fun h => rtT_one r h)
    have HTS := Lib.hid (fun k h hk => rtT_step r k h hk)
    have HPR := Lib.hid (fun W => refPrint_any r.w t0 t1 W)
    generalize routeT r = v at *
    generalize rtT r = T at *
    clear hn hn2 hall t2
    go_enter Tryz.func47, Tryz.ntmps47
    go_wp2_with fail
    obtain ⟨W, hW, c0, c1⟩ : ∃ W, W = w.alloc (Obj.cells #[.slice ao r.es.length cap, .int .u64 r.w] 48) ∧ W.cell? ⟨w.heap.size, 0, none⟩ = some (.slice ao r.es.length cap) ∧ W.cell? ⟨w.heap.size, 1, none⟩ = some (.int .u64 r.w) := ⟨_, rfl, by go_simp, by go_simp⟩
    rw [← hW]
    have HW := Lib.hid (show Below w.heap.size w W by rw [hW]; exact Below.of_al _ _)
    clear hW
    refine (HE.out _ (HC.out.go HW.out)).mono ?_
    rintro e w1 ⟨rfl, rfl⟩
    go_wp2_with (go_at_call 46; refine (HPR.out _).mono ?_; rintro e w2 ⟨rfl, hb2⟩; have c0a := cell_later hb2 c0; have c1a := cell_later hb2 c1; (have HB2 := Lib.hid (HW.out.st hb2); clear hb2 c0 c1))
    go_loopg [3, 4] r.es.length (fun gg v i wr => ∃ k : Nat, k ≤ r.es.length ∧ r.es.length - k ≤ gg ∧ i = .int .i64 k ∧ v = .string (T k) ∧ Aside (Below w2.heap.size w2 wr))
    case atStart => exact ⟨0, Nat.zero_le _, by omega, rfl, by rw [HT0.out], Below.refl _ _⟩
    case round =>
      obtain ⟨k, hk, hg, rfl, rfl, HB⟩ := hrel
      have hts := HSZ.out k hk
      have c0b := cell_later HB.out c0a
      by_cases hlt : k < r.es.length
      · obtain ⟨b, o, hao, hcell⟩ := (HC.out.go (HB2.out.st HB.out)).at hlt
        subst hao
        have hlt3 : (k : Int) < (r.es.length : Int) := by omega
        have hk0 : (0 : Int) ≤ (k : Int) := by omega
        have hin := HIN.out k hlt
        have HQ1 := Lib.hid (fun h : k = 0 => (show T (k + 1) = T k ++ printI r.es[k] by subst h; exact HT1.out hlt))
        have HQ2 := Lib.hid (fun h : 0 < k => HTS.out k hlt h)
        generalize r.es[k] = x at *
        have hwx : IntKind.u64.wrap x = x := IntWalk.u64_in _ (by omega)
        have HI := Lib.hid (fun W => refPrint_any x hin.1 (by omega) W)
        have zp := printI_size_le (n := x) hin.1 (by omega)
        generalize printI x = px at *
        by_cases h0 : k = 0
        · have hb0 : ¬ (0 : Int) < (k : Int) := by omega
          have HS3 := Lib.hid (HQ1.out h0)
          clear h0 HQ1 HQ2
          go_wp2_with (go_at_call 46; refine (HI.out _).mono ?_; rintro e w6 ⟨rfl, hb6⟩)
          go_roundg (r.es.length - (k + 1))
          case measure => omega
          case rel => exact ⟨k + 1, by omega, by omega, by go_num, by rw [HS3.out], HB.out.st hb6⟩
        · have hb0 : (0 : Int) < (k : Int) := by omega
          have HS3 := Lib.hid (HQ2.out (by omega))
          clear h0 HQ1 HQ2
          go_wp2_with (go_at_call 46; refine (HI.out _).mono ?_; rintro e w6 ⟨rfl, hb6⟩)
          go_roundg (r.es.length - (k + 1))
          case measure => omega
          case rel => exact ⟨k + 1, by omega, by omega, by go_num, by rw [HS3.out], HB.out.st hb6⟩
      · obtain rfl : k = r.es.length := by omega
        go_wp2
        go_ret
        exact ⟨by rw [HV.out]; rfl, HB2.out.st HB.out⟩

/-- what strings.Cut answers at one sign -/
def cutVB (c : UInt8) (s : ByteArray) : Value := if Lib.indexByte s.data.toList c = -1 then .tuple #[.string s, .string ByteArray.empty, .bool false] else .tuple #[.string (s.extract 0 (Lib.indexByte s.data.toList c).toNat), .string (s.extract ((Lib.indexByte s.data.toList c).toNat + 1) s.size), .bool true]
set_option maxHeartbeats 400000 in
theorem sliteCutB_any (c : UInt8) (s : ByteArray) (w : World) (hs : s.size ≤ 140737488355328) :
    Calls Tryz.prog 163 #[.string s, .string ⟨#[c]⟩] w fun e w' => e = .returned (cutVB c s) ∧ Below w.heap.size w w' := by
  have HI := Lib.hid (fun W => Tryz.stringslite_Index_one s c W)
  have hge := Lib.indexByte_ge s.data.toList c
  by_cases h : Lib.indexByte s.data.toList c = -1
  · have HR := Lib.hid (show cutVB c s = _ from if_pos h)
    rw [h] at HI
    clear h hge
    generalize cutVB c s = r at *
    go_enter Tryz.func163, Tryz.ntmps163
    go_wp2_with (go_at_call 162; refine (HI.out _).mono ?_; rintro e w1 ⟨rfl, rfl⟩)
    go_ret3
    exact ⟨by rw [HR.out]; rfl, Below.refl _ _⟩
  · obtain ⟨i, hi2⟩ : ∃ i : Nat, Lib.indexByte s.data.toList c = (i : Int) := ⟨(Lib.indexByte s.data.toList c).toNat, by omega⟩
    have hi : i < s.size := by
      have := (List.getElem?_eq_some_iff.1 (Lib.indexByte_some hi2).1).1
      simpa using this
    have HR := Lib.hid (show cutVB c s = .tuple #[.string (s.extract 0 i), .string (s.extract (i + 1) s.size), .bool true] by
      unfold cutVB; rw [if_neg h, hi2]; rfl)
    rw [hi2] at HI
    clear h hi2 hge
    generalize cutVB c s = r at *
    go_enter Tryz.func163, Tryz.ntmps163
    go_wp2_with (go_at_call 162; refine (HI.out _).mono ?_; rintro e w1 ⟨rfl, rfl⟩)
    go_region
    go_wp2
    go_ret3
    exact ⟨by rw [HR.out]; rfl, Below.of_dr _ 1⟩
theorem sCutB_any (c : UInt8) (s : ByteArray) (w : World) (hs : s.size ≤ 140737488355328) :
    Calls Tryz.prog 124 #[.string s, .string ⟨#[c]⟩] w fun e w' => e = .returned (cutVB c s) ∧ Below w.heap.size w w' := by
  have HI := Lib.hid (sliteCutB_any c s w hs)
  unfold cutVB at *
  split at HI
  · rename_i h
    rw [if_pos h]
    clear h
    go_enter Tryz.func124, Tryz.ntmps124
    go_wp2_with (go_at_call 163; refine HI.out.mono ?_; rintro e w1 ⟨rfl, hb1⟩)
    go_ret3
    exact ⟨rfl, hb1⟩
  · rename_i h
    rw [if_neg h]
    clear h
    go_enter Tryz.func124, Tryz.ntmps124
    go_wp2_with (go_at_call 163; refine HI.out.mono ?_; rintro e w1 ⟨rfl, hb1⟩)
    go_ret3
    exact ⟨rfl, hb1⟩

end Go.Proofs.YtelcmkccfjdmjaaGreatDoor
