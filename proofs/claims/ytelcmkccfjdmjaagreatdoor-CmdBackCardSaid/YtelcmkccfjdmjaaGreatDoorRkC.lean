/-
  Walks of package rank: the text of a rank.
  Ranks, in plain Lean: a rank's text is read as it was.
-/
import Derived.Test.YtelcmkccfjdmjaaGreatDoorProg
import Derived.Test.YtelcmkccfjdmjaaGreatDoorRkA
import Derived.Test.YtelcmkccfjdmjaaGreatDoorGtC
namespace Go.Proofs.YtelcmkccfjdmjaaGreatDoor
open Go.Proofs Go.RowKit Go.Shelf Go.Sort

/-- texts, with commas between -/
def joinC (xs : List ByteArray) : ByteArray := ⟨(Lib.join (tlD xs) [44]).toArray⟩
def textR (l : List Int) : Nat → ByteArray
  | 0 => ByteArray.empty
  | k + 1 => (if k = 0 then textR l k else textR l k ++ ⟨#[44]⟩) ++ printI (l.getD k 0)
def textL (l : List Int) : ByteArray := if rankB l then joinC (l.map printI) else ByteArray.empty

theorem join_snoc (xs : List (List UInt8)) (y : List UInt8) (h : xs ≠ []) : Lib.join (xs ++ [y]) [44] = Lib.join xs [44] ++ [44] ++ y := by
  cases xs with
  | nil => exact absurd rfl h
  | cons x r =>
    rw [List.cons_append, Lib.join_cons, Lib.join_cons]
    simp [Lib.joinTail]
theorem textR_join (l : List Int) : ∀ k, k ≤ l.length → textR l k = joinC ((l.take k).map printI)
  | 0, _ => by unfold textR joinC; simp [tlD, Lib.join_nil]; rfl
  | k + 1, h => by
    have ih := textR_join l k (by omega)
    have hk : k < l.length := by omega
    unfold textR
    rw [List.take_succ_eq_append_getElem hk, List.map_append, ih]
    have hg : l.getD k 0 = l[k] := by simp [List.getD, hk]
    rw [hg]
    unfold joinC tlD
    by_cases h0 : k = 0
    · subst h0
      rw [if_pos rfl]
      apply Go.WideShapes.bytes_inj
      simp [Lib.join_nil, Lib.join_one]
    · rw [if_neg h0, List.map_append, List.map_cons, List.map_nil, List.map_cons, List.map_nil, join_snoc _ _ (by
        intro e
        have := congrArg List.length e
        rw [List.length_map, List.length_map, List.length_take, List.length_nil] at this
        omega)]
      apply Go.WideShapes.bytes_inj
      simp
theorem textR_all (l : List Int) : textR l l.length = joinC (l.map printI) := by
  rw [textR_join l _ (Nat.le_refl _), List.take_length]
theorem textR_size (l : List Int) (h : ∀ x ∈ l, 0 ≤ x ∧ x < 18446744073709551616) : ∀ k, k ≤ l.length → (textR l k).size ≤ 21 * k
  | 0, _ => by unfold textR; exact Nat.le_refl 0
  | k + 1, hk => by
    have ih := textR_size l h k (by omega)
    have hk2 : k < l.length := by omega
    have hg : l.getD k 0 = l[k] := by simp [List.getD, hk2]
    have hx := h l[k] (List.getElem_mem hk2)
    have hp := printI_size_le hx.1 hx.2
    unfold textR
    rw [hg]
    split
    · rw [ByteArray.size_append]; omega
    · rw [ByteArray.size_append, ByteArray.size_append]
      have : (⟨#[44]⟩ : ByteArray).size = 1 := rfl
      omega

/-- strings.Join with a comma, at some words -/
theorem sJoinC_any (l : List ByteArray) (ao : Option Addr) (cap : Nat) (w : World) (hl : l.length ≤ 140737488355328) (hcap : l.length ≤ cap) (hlen : (joinC l).size ≤ 140737488355328) (hc : Cel w ao (l.map encS)) :
    Calls Tryz.prog 44 #[.slice ao l.length cap, .string ⟨#[44]⟩] w fun e w' => e = .returned (.string (joinC l)) ∧ Below w.heap.size w w' := by
  cases l with
  | nil => exact (Tryz.strings_Join_none ao cap ⟨#[44]⟩ w).mono fun e w' ⟨he, hw⟩ => ⟨he, hw ▸ Below.refl _ _⟩
  | cons x r =>
    obtain ⟨b, o, e, h0⟩ := hc 0 (encS x) rfl
    subst e
    refine Tryz.strings_Join b o cap (x :: r) ⟨#[44]⟩ w ?_ ?_ hl hcap (by unfold joinC at hlen; simpa [ByteArray.size, tlD] using hlen)
    · intro j y hj
      obtain ⟨b', o', e', h'⟩ := hc j (encS y) (by rw [List.getElem?_map, hj]; rfl)
      cases e'
      exact h'
    · exact cell_ltD h0

theorem owns_cap {w : World} {base : Nat} {e : TypeId} {size n c : Nat} {ao : Option Addr} {xs : List Value} (h : w.ownsRow base e size (.slice ao n c) n xs) : n ≤ c := by
  rcases h.2 with ⟨e, h0⟩ | ⟨g, cap, cur, e, _, _, h1, _⟩
  · cases e; omega
  · cases e; exact h1

theorem one_str (s : ByteArray) : ∀ u ∈ [encS s], u.oneCell' = true := by
  intro u hu
  rw [List.mem_singleton] at hu
  subst hu
  rfl
theorem one_cell (x : Value) (w : World) (T : TypeId) : ∀ j u, [x][j]? = some u → (w.alloc (.cells #[x] T)).cell? ((⟨w.heap.size, 0, none⟩ : Addr).add j) = some u := by
  intro j u hu
  rw [Addr.add_lit]
  have := World.cell?_alloc_mark w #[x] T (0, 0) (0 + j)
  rw [this]
  simpa using hu

set_option maxHeartbeats 1000000 in
theorem rkText_any (l : List Int) (ao : Option Addr) (cap : Nat) (w : World) (hl : l.length ≤ 1000000) (hc : Cel w ao (l.map encI)) (hp : Pow10 w) :
    Calls Tryz.prog 100 #[.slice ao l.length cap] w fun e w' => e = .returned (.string (textL l)) ∧ Below w.heap.size w w' := by
  have HC := Lib.hid hc
  have HT := Lib.hid hp
  have HR := Lib.hid (fun W h => rkRight_any l ao cap W hl h)
  clear hc hp
  cases hr : rankB l with
  | false =>
    have HV := Lib.hid (show textL l = ByteArray.empty by unfold textL; rw [hr]; rfl)
    generalize textL l = r at *
    rw [hr] at HR
    clear hr
    go_enter Tryz.func100, Tryz.ntmps100
    go_wp2_with (go_at_call 142; refine (HR.out _ HC.out).mono ?_; rintro e w1 ⟨rfl, hb1⟩)
    go_ret
    exact ⟨by rw [HV.out]; rfl, hb1⟩
  | true =>
    have HV := Lib.hid (show textL l = joinC (l.map printI) by unfold textL; rw [hr]; rfl)
    have HIN := Lib.hid (fun k (hk : k < l.length) => rankB_in hr l[k] (List.getElem_mem hk))
    have HSZ := Lib.hid (show (joinC (l.map printI)).size ≤ 140737488355328 by
      rw [← textR_all]
      have := textR_size l (fun x hx => by have := rankB_in hr x hx; omega) l.length (Nat.le_refl _)
      omega)
    have HST := Lib.hid (fun k (hk : k < l.length) => (show (l.take (k + 1)).map printI = (l.take k).map printI ++ [printI l[k]] by rw [List.take_succ_eq_append_getElem hk, List.map_append]; rfl))
    have HLN := Lib.hid (show (l.map printI).length = l.length by simp)
    generalize textL l = r at *
    rw [hr] at HR
    clear hr
    go_enter Tryz.func100, Tryz.ntmps100
    go_wp2_with (go_at_call 142; refine (HR.out _ HC.out).mono ?_; rintro e w1 ⟨rfl, hb1⟩)
    have HB1 := Lib.hid hb1
    have HC1 := Lib.hid (HC.out.go hb1)
    clear hb1
    go_loopg [3, 11] l.length (fun gg v i wr => ∃ k : Nat, k ≤ l.length ∧ l.length - k ≤ gg ∧ i = .int .i64 k ∧ Aside (wr.ownsRow w1.heap.size 9 1 v k (((l.take k).map printI).map encS)) ∧ Aside (Below w1.heap.size w1 wr))
    case atStart => exact ⟨0, Nat.zero_le _, by omega, rfl, by rw [List.take_zero]; exact World.ownsRow_nil _ _ _ _, Below.refl _ _⟩
    case round =>
      obtain ⟨k, hk, hg, rfl, HO, HB⟩ := hrel
      by_cases hlt : k < l.length
      · obtain ⟨b, o, hao, hcell⟩ := (HC1.out.go HB.out).at hlt
        subst hao
        have hlt3 : (k : Int) < (l.length : Int) := by omega
        have hk0 : (0 : Int) ≤ (k : Int) := by omega
        have hin := HIN.out k hlt
        have HS2 := Lib.hid (HST.out k hlt)
        generalize l[k] = x at *
        have HI := Lib.hid (fun W h => Itoa_any x (by omega) (by omega) W h)
        generalize printI x = px at *
        go_wp2_with (first
          | (go_at_call 90; refine (HI.out _ (tabIs_go HT.out (HB1.out.st HB.out))).mono ?_; rintro e w5 ⟨rfl, hb5⟩; (have HO5 := Lib.hid (owns_goD HO.out hb5); have HB5 := Lib.hid (HB.out.st hb5); clear hb5))
          | (at_builtin; go_must ((with_reducible refine wpList_app w1.heap.size 9 _ 1 16 elem_str Tryz.underlying26 _ k _ ⟨w5.heap.size, 0, none⟩ 1 1 [encS px] ?_ ?_ (HO5.out.alloc _) (one_cell _ _ _) (one_str _) ⟨rfl, by decide, by omega, by omega, by have := HB5.out.size; simp; omega⟩ ?_); (· rfl); (· rfl); intro g6 cap6 w6 hown hgrow hbl hat hlt6; (have HO6 := Lib.hid hown; have HB6 := Lib.hid hbl; clear hown hgrow hbl hat))))
        go_roundg (l.length - (k + 1))
        case measure => omega
        case rel => exact ⟨k + 1, by omega, by omega, by go_num, by rw [HS2.out, List.map_append]; exact HO6.out, (HB5.out.al _).trans HB6.out⟩
      · obtain rfl : k = l.length := by omega
        obtain ⟨ao8, cap8, rfl, hc8⟩ := Cel.of_owns HO.out
        have hcap := owns_cap HO.out
        rw [List.take_length] at hc8
        have HJ := Lib.hid (sJoinC_any (l.map printI) ao8 cap8 wr (by simp; omega) (by simp; omega) HSZ.out hc8)
        rw [HLN.out, ← HV.out] at HJ
        clear hc8 hcap
        go_wp2_with (go_at_call 44; refine HJ.out.mono ?_; rintro e w9 ⟨rfl, hb9⟩)
        go_ret
        exact ⟨rfl, HB1.out.st (HB.out.st hb9)⟩

set_option maxHeartbeats 1000000 in
theorem refRkText_any (l : List Int) (ao : Option Addr) (cap : Nat) (w : World) (hl : l.length ≤ 1000000) (hc : Cel w ao (l.map encI)) :
    Calls Tryz.prog 103 #[.slice ao l.length cap] w fun e w' => e = .returned (.string (textL l)) ∧ Below w.heap.size w w' := by
  have HC := Lib.hid hc
  have HR := Lib.hid (fun W h => (refRkRight_any l ao cap W hl h))
  clear hc
  cases hr : rankB l with
  | false =>
    have HV := Lib.hid (show textL l = ByteArray.empty by unfold textL; rw [hr]; rfl)
    have hpos : (0 : Int) < (l.length : Int) := by
      cases l with
      | nil => cases hr
      | cons x r => simp
    generalize textL l = r at *
    rw [hr] at HR
    clear hr
    go_enter Tryz.func103, Tryz.ntmps103
    go_wp2
    refine wp_loop_rounds 1 ?_
    rw [rounds_succ]
    go_wp2_with (go_at_call 146; refine (HR.out _ HC.out).mono ?_; rintro e w1 ⟨rfl, rfl⟩)
    go_ret
    exact ⟨by rw [HV.out]; rfl, Below.refl _ _⟩
  | true =>
    have HV := Lib.hid (show textL l = textR l l.length by unfold textL; rw [hr, textR_all]; rfl)
    have HIN := Lib.hid (fun k (hk : k < l.length) => rankB_in hr l[k] (List.getElem_mem hk))
    have HSZ := Lib.hid (textR_size l (fun x hx => by have := rankB_in hr x hx; omega))
    have HST := Lib.hid (fun k (hk : k < l.length) => (show textR l (k + 1) = (if k = 0 then textR l k else textR l k ++ ⟨#[44]⟩) ++ printI l[k] by
      conv => lhs; unfold textR
      simp [List.getD, hk]))
    have HT0 := Lib.hid (show textR l 0 = ByteArray.empty from rfl)
    generalize textL l = r at *
    generalize textR l = T at *
    rw [hr] at HR
    clear hr
    go_enter Tryz.func103, Tryz.ntmps103
    go_wp2
    go_loopg [3, 4] l.length (fun gg v i wr => ∃ k : Nat, k ≤ l.length ∧ l.length - k ≤ gg ∧ i = .int .i64 k ∧ v = .string (T k) ∧ Aside (Below w.heap.size w wr))
    case atStart => exact ⟨0, Nat.zero_le _, by omega, rfl, by rw [HT0.out]; rfl, Below.refl _ _⟩
    case round =>
      obtain ⟨k, hk, hg, rfl, rfl, HB⟩ := hrel
      have hts := HSZ.out k hk
      by_cases hlt : k < l.length
      · obtain ⟨b, o, hao, hcell⟩ := (HC.out.go HB.out).at hlt
        subst hao
        have hlt3 : (k : Int) < (l.length : Int) := by omega
        have hk0 : (0 : Int) ≤ (k : Int) := by omega
        have hin := HIN.out k hlt
        have HS2 := Lib.hid (HST.out k hlt)
        generalize l[k] = x at *
        have HI := Lib.hid (fun W => refPrint_any x (by omega) (by omega) W)
        have zp := printI_size_le (n := x) (by omega) (by omega)
        generalize printI x = px at *
        obtain ⟨T1, hT1⟩ : ∃ T1, T (k + 1) = T1 := ⟨_, rfl⟩
        rw [hT1] at HS2
        have HT1 := Lib.hid hT1
        generalize T k = T0 at *
        clear hT1
        by_cases h0 : k = 0
        · have hb0 : ¬ (0 : Int) < (k : Int) := by omega
          have HS3 := Lib.hid (HS2.out.trans (by rw [if_pos h0]))
          clear HS2 h0
          go_wp2_with (first
            | (go_at_call 146; refine (HR.out _ (HC.out.go HB.out)).mono ?_; rintro e w5 ⟨rfl, rfl⟩)
            | (go_at_call 46; refine (HI.out _).mono ?_; rintro e w6 ⟨rfl, hb6⟩))
          go_roundg (l.length - (k + 1))
          case measure => omega
          case rel => exact ⟨k + 1, by omega, by omega, by go_num, by rw [HT1.out, HS3.out], HB.out.st hb6⟩
        · have hb0 : (0 : Int) < (k : Int) := by omega
          have HS3 := Lib.hid (HS2.out.trans (by rw [if_neg h0]))
          clear HS2 h0
          go_wp2_with (first
            | (go_at_call 146; refine (HR.out _ (HC.out.go HB.out)).mono ?_; rintro e w5 ⟨rfl, rfl⟩)
            | (go_at_call 46; refine (HI.out _).mono ?_; rintro e w6 ⟨rfl, hb6⟩))
          go_roundg (l.length - (k + 1))
          case measure => omega
          case rel => exact ⟨k + 1, by omega, by omega, by go_num, by rw [HT1.out, HS3.out], HB.out.st hb6⟩
      · obtain rfl : k = l.length := by omega
        go_wp2
        go_ret
        exact ⟨by rw [HV.out]; rfl, HB.out⟩

end Go.Proofs.YtelcmkccfjdmjaaGreatDoor

namespace Go.Proofs.YtelcmkccfjdmjaaGreatDoor
open Go.Proofs Go.RowKit Go.Shelf

/-- the parts of joined texts -/
theorem splitB_plain (c : UInt8) : ∀ l : List UInt8, (∀ x ∈ l, x ≠ c) → splitB c l = [l]
  | [], _ => rfl
  | x :: r, h => by
    rw [splitB, if_neg (h x (by simp)), splitB_plain c r (fun y hy => h y (by simp [hy]))]
    rfl
theorem splitB_cut (c : UInt8) (r : List UInt8) : ∀ l : List UInt8, (∀ x ∈ l, x ≠ c) → splitB c (l ++ c :: r) = l :: splitB c r
  | [], _ => by rw [List.nil_append, splitB, if_pos rfl]
  | x :: t, h => by
    rw [List.cons_append, splitB, if_neg (h x (by simp)), splitB_cut c r t (fun y hy => h y (by simp [hy]))]
    rfl
theorem splitB_join (c : UInt8) : ∀ (xs : List (List UInt8)), xs ≠ [] → (∀ l ∈ xs, ∀ x ∈ l, x ≠ c) → splitB c (Lib.join xs [c]) = xs
  | [], h, _ => absurd rfl h
  | [l], _, h => by
    rw [show Lib.join [l] [c] = l by simp [Lib.join]]
    exact splitB_plain c l (h l (by simp))
  | l :: m :: r, _, h => by
    have ih := splitB_join c (m :: r) (by simp) (fun x hx => h x (by simp [hx]))
    rw [show Lib.join (l :: m :: r) [c] = l ++ c :: Lib.join (m :: r) [c] by simp [Lib.join]]
    rw [splitB_cut c _ l (h l (by simp)), ih]
theorem joinC_parts (xs : List ByteArray) (hne : xs ≠ []) (h : ∀ s ∈ xs, ∀ x ∈ s.data.toList, x ≠ 44) : partsS 44 (joinC xs) = xs := by
  unfold partsS joinC
  rw [show (⟨(Lib.join (tlD xs) [44]).toArray⟩ : ByteArray).data.toList = Lib.join (tlD xs) [44] by simp]
  rw [splitB_join 44 (tlD xs) (by unfold tlD; simpa using hne) (by
    intro l hl x hx
    unfold tlD at hl
    obtain ⟨s, hs, rfl⟩ := List.mem_map.1 hl
    exact h s hs x (by simpa using hx))]
  unfold tlD
  rw [List.map_map]
  conv => rhs; rw [← List.map_id xs]
  refine List.map_congr_left fun s _ => ?_
  simp
theorem printI_nocomma (n : Int) : ∀ x ∈ (printI n).data.toList, x ≠ 44 := by
  intro x hx e
  rw [printI_data] at hx
  have := isDig_of (decDigits_dig _ x hx)
  subst e
  revert this
  decide
theorem rankP_text {l : List Int} (h : rankB l = true) (hl : l.length ≤ 100) : rankP (textL l) = (l, 0) := by
  have hin := rankB_in h
  unfold textL
  rw [if_pos h]
  by_cases h0 : l = []
  · subst h0
    rfl
  · have hne : l.map printI ≠ [] := by simpa using h0
    have hp := joinC_parts (l.map printI) hne (fun s hs => by
      obtain ⟨n, _, rfl⟩ := List.mem_map.1 hs
      exact printI_nocomma n)
    have hpp : ∀ n ∈ l, parseI (printI n) = (n, 0) := fun n hn => parse_print (hin n hn).1 (by have := hin n hn; omega)
    have hv : valsK (l.map printI) = l := by
      unfold valsK
      rw [List.map_map]
      conv => rhs; rw [← List.map_id l]
      refine List.map_congr_left fun n hn => ?_
      show (parseI (printI n)).1 = n
      rw [hpp n hn]
    have hs : synK (l.map printI) = false := by
      unfold synK
      rw [List.any_eq_false]
      intro p hm
      obtain ⟨n, hn, rfl⟩ := List.mem_map.1 hm
      rw [hpp n hn]
      simp
    have hw : wideK (l.map printI) = false := by
      unfold wideK
      rw [List.any_eq_false]
      intro p hm
      obtain ⟨n, hn, rfl⟩ := List.mem_map.1 hm
      have := hin n hn
      rw [hpp n hn]
      simp
      omega
    have hz : ¬ (joinC (l.map printI)).size = 0 := by
      intro e
      have e2 := size_zero e
      rw [e2] at hp
      cases l with
      | nil => exact h0 rfl
      | cons a r =>
        have e3 : partsS 44 ByteArray.empty = [ByteArray.empty] := rfl
        rw [e3, List.map_cons] at hp
        have e4 : ByteArray.empty = printI a := (List.cons.inj hp).1
        have e5 := hpp a (by simp)
        rw [← e4] at e5
        have : parseI ByteArray.empty = (0, 3) := parseI_bad (.inl rfl)
        rw [this] at e5
        cases e5
    unfold rankP
    rw [if_neg hz, hp, hs, hw, hv, h]
    rfl
theorem digits_two : ∀ n, n < 100 → (Lib.decDigits n).length ≤ 2 := by decide +kernel
theorem textR_small (l : List Int) (h : ∀ x ∈ l, 0 ≤ x ∧ x < 100) : ∀ k, k ≤ l.length → (textR l k).size ≤ 3 * k
  | 0, _ => by unfold textR; exact Nat.le_refl 0
  | k + 1, hk => by
    have ih := textR_small l h k (by omega)
    have hk2 : k < l.length := by omega
    have hg : l.getD k 0 = l[k] := by simp [List.getD, hk2]
    have hx := h l[k] (List.getElem_mem hk2)
    have hp : (printI l[k]).size ≤ 2 := by
      have h1 := digits_two (l[k]).toNat (by omega)
      rw [← printI_data] at h1
      simpa using h1
    unfold textR
    rw [hg]
    split
    · rw [ByteArray.size_append]; omega
    · rw [ByteArray.size_append, ByteArray.size_append]
      have : (⟨#[44]⟩ : ByteArray).size = 1 := rfl
      omega
theorem textL_size {l : List Int} (h : rankB l = true) (hl : l.length ≤ 100) : (textL l).size ≤ 1000 := by
  have hin := rankB_in h
  unfold textL
  rw [if_pos h, ← textR_all]
  have := textR_small l (fun x hx => by have := hin x hx; omega) l.length (Nat.le_refl _)
  omega

end Go.Proofs.YtelcmkccfjdmjaaGreatDoor
