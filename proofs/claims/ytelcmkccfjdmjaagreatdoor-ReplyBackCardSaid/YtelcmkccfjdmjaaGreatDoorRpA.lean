/-
  Walks of package reply: the text of a route.
-/
import Derived.Test.YtelcmkccfjdmjaaGreatDoorProg
import Derived.Test.YtelcmkccfjdmjaaGreatDoorRpSpec
import Derived.Test.YtelcmkccfjdmjaaGreatDoorNumPrintR
import Derived.Test.YtelcmkccfjdmjaaGreatDoorNumParse
import Derived.Test.YtelcmkccfjdmjaaGreatDoorTokJoin
namespace Go.Proofs.YtelcmkccfjdmjaaGreatDoor
open Go.Proofs Go.RowKit Go.Shelf Go.Sort

set_option maxHeartbeats 400000 in
theorem IndexFunc_int (g : Nat) (cb : Array Value) (p : Int → Bool) (ao : Option Addr) (cap : Nat) (l : List Int) (w : World) (hen : Enters Tryz.prog g)
    (hp : PredOn Tryz.prog g cb encI p l w) (hl : l.length ≤ 9223372036854775807) (hc : Cel w ao (l.map encI)) :
    Calls Tryz.prog 133 #[.slice ao l.length cap, .func (.func g) #[] cb] w fun e w' => e = .returned (.int .i64 (idxI p l)) ∧ Below w.heap.size w w' := by
  have HP := Lib.hid hp
  have HC := Lib.hid hc
  clear hp hc
  unfold Enters at hen
  go_enter Tryz.func133, Tryz.ntmps133
  go_wp2
  go_loopg [8] l.length (fun g i wr => ∃ k : Nat, k ≤ l.length ∧ l.length - k ≤ g ∧ i = .int .i64 k ∧ Aside (Below w.heap.size w wr) ∧ Aside (∀ j (h : j < l.length), j < k → p l[j] = false))
  case atStart => exact ⟨0, Nat.zero_le _, by omega, rfl, Below.refl _ _, fun j _ h => absurd h (Nat.not_lt_zero _)⟩
  case round =>
    obtain ⟨k, hk, hg, rfl, HB, HA⟩ := hrel
    by_cases hlt : k < l.length
    · obtain ⟨b, o, hao, hcell⟩ := (HC.out.below HB.out (Nat.le_refl _)).at hlt
      have HQ := Lib.hid (HP.out wr l[k] HB.out (List.getElem_mem hlt))
      have HN := Lib.hid (fun h : p l[k] = true => idxI_hit p l k hlt h (fun j h1 h2 => HA.out j h1 h2))
      have HM := Lib.hid (fun h : p l[k] = false => (fun j (h1 : j < l.length) (h2 : j < k + 1) => (by
        by_cases e : j = k
        · subst e; exact h
        · exact HA.out j h1 (by omega) : p l[j] = false)))
      generalize hx : l[k] = x at *
      clear hx
      subst hao
      cases hq : p x with
      | true =>
        have HN2 := Lib.hid (HN.out hq)
        have HQ2 := Lib.hid (hq ▸ HQ.out)
        clear hq
        go_wp2_with (go_at_fn g; refine HQ2.out.mono ?_; rintro e w1 ⟨rfl, hb1⟩)
        go_ret
        exact ⟨by rw [HN2.out]; rfl, HB.out.trans (hb1.mono (by have := HB.out.size; omega))⟩
      | false =>
        have HN2 := Lib.hid (HM.out hq)
        have HQ2 := Lib.hid (hq ▸ HQ.out)
        clear hq
        go_wp2_with (go_at_fn g; refine HQ2.out.mono ?_; rintro e w1 ⟨rfl, hb1⟩)
        go_roundg (l.length - (k + 1))
        case measure => omega
        case rel => exact ⟨k + 1, by omega, by omega, by go_num, HB.out.trans (hb1.mono (by have := HB.out.size; omega)), HN2.out⟩
    · obtain rfl : k = l.length := by omega
      have HN := Lib.hid (idxI_miss p l (fun j h => HA.out j h h))
      go_wp2
      go_ret
      exact ⟨by rw [HN.out]; rfl, HB.out⟩

theorem ContainsFunc_int (g : Nat) (cb : Array Value) (p : Int → Bool) (ao : Option Addr) (cap : Nat) (l : List Int) (w : World) (hen : Enters Tryz.prog g)
    (hp : PredOn Tryz.prog g cb encI p l w) (hl : l.length ≤ 9223372036854775807) (hc : Cel w ao (l.map encI)) :
    Calls Tryz.prog 88 #[.slice ao l.length cap, .func (.func g) #[] cb] w fun e w' => e = .returned (.bool (l.any p)) ∧ Below w.heap.size w w' := by
  have HC := Lib.hid (IndexFunc_int g cb p ao cap l w hen hp hl hc)
  have HI := Lib.hid (idxI_any p l)
  clear hp hc hen
  generalize idxI p l = r at *
  go_enter Tryz.func88, Tryz.ntmps88
  go_wp2_with (go_at_call 133; refine HC.out.mono ?_; rintro e w1 ⟨rfl, hb1⟩)
  go_ret
  exact ⟨by rw [← HI.out]; rfl, hb1⟩

/-- strings.Join with one sign between -/
theorem sJoinB_any (c : UInt8) (l : List ByteArray) (ao : Option Addr) (cap : Nat) (w : World) (hl : l.length ≤ 140737488355328) (hcap : l.length ≤ cap) (hlen : (joinB c l).size ≤ 140737488355328) (hc : Cel w ao (l.map encS)) :
    Calls Tryz.prog 44 #[.slice ao l.length cap, .string ⟨#[c]⟩] w fun e w' => e = .returned (.string (joinB c l)) ∧ Below w.heap.size w w' := by
  cases l with
  | nil => exact (Tryz.strings_Join_none ao cap ⟨#[c]⟩ w).mono fun e w' ⟨he, hw⟩ => ⟨he, hw ▸ Below.refl _ _⟩
  | cons x r =>
    obtain ⟨b, o, e, h0⟩ := hc 0 (encS x) rfl
    subst e
    refine Tryz.strings_Join b o cap (x :: r) ⟨#[c]⟩ w ?_ ?_ hl hcap (by unfold joinB at hlen; simpa [ByteArray.size] using hlen)
    · intro j y hj
      obtain ⟨b', o', e', h'⟩ := hc j (encS y) (by rw [List.getElem?_map, hj]; rfl)
      cases e'
      exact h'
    · exact cell_lt h0
theorem itoa_any (n : Int) (h0 : 0 ≤ n) (h1 : n ≤ 9223372036854775807) (w : World) (ht : Pow10 w) :
    Calls Tryz.prog 90 #[.int .i64 n] w fun e w' => e = .returned (.string (printI n)) ∧ Below w.heap.size w w' := by
  refine (Tryz.strconv_Itoa n (by omega) h1 w ht).mono ?_
  rintro e w' ⟨rfl, k, os, rfl⟩
  refine ⟨?_, below_grow w os k⟩
  obtain ⟨u, rfl⟩ := Int.eq_ofNat_of_zero_le h0
  rw [Lib.itoa_nonneg]
  rfl
theorem rt_owns_go {w w' : World} {base : Nat} {e : TypeId} {size n : Nat} {v : Value} {xs : List Value} (h : w.ownsRow base e size v n xs) (hb : Below w.heap.size w w') : w'.ownsRow base e size v n xs := by
  refine ⟨h.1, ?_⟩
  rcases h.2 with h2 | ⟨g, cap, cur, hv, hbg, hg, r⟩
  · exact .inl h2
  · exact .inr ⟨g, cap, cur, hv, hbg, by rw [hb.block g (Array.getElem?_eq_some_iff.1 hg).1]; exact hg, r⟩
theorem rt_owns_cap {w : World} {base : Nat} {e : TypeId} {size n c : Nat} {ao : Option Addr} {xs : List Value} (h : w.ownsRow base e size (.slice ao n c) n xs) : n ≤ c := by
  rcases h.2 with ⟨e, h0⟩ | ⟨g, cap, cur, e, _, _, h1, _⟩
  · cases e; omega
  · cases e; exact h1
theorem rt_one (x : Value) (w : World) (T : TypeId) : ∀ j u, [x][j]? = some u → (w.alloc (.cells #[x] T)).cell? ((⟨w.heap.size, 0, none⟩ : Addr).add j) = some u := by
  intro j u hu
  rw [Addr.add_lit]
  have := World.cell?_alloc_mark w #[x] T (0, 0) (0 + j)
  rw [this]
  simpa using hu
theorem rt_ones (s : ByteArray) : ∀ u ∈ [encS s], u.oneCell' = true := by
  intro u hu
  rw [List.mem_singleton] at hu
  subst hu
  rfl
theorem rt_elem : Elem Tryz.prog 9 (.string ByteArray.empty) 1 16 := ⟨by kernel_rfl, rfl, by decide⟩

/-- a route as an argument: its numbers are as its types have it -/
def tyRt (r : RtD) : Prop := 0 ≤ r.w ∧ r.w < 18446744073709551616 ∧ (∀ e ∈ r.es, -9223372036854775808 ≤ e ∧ e ≤ 9223372036854775807) ∧ r.es.length ≤ 1000000
theorem joinB_len (c : UInt8) (xs : List ByteArray) : (joinB c xs).size = (Lib.join (xs.map (·.data.toList)) [c]).length := by
  have := congrArg List.length (joinB_data c xs)
  rw [← this]
  simp
theorem joinB_size (c : UInt8) (m : Nat) : ∀ (xs : List ByteArray), (∀ x ∈ xs, x.size ≤ m) → (joinB c xs).size ≤ (m + 1) * xs.length
  | [], _ => by
    have e : joinB c [] = ByteArray.empty := rfl
    rw [e]
    exact Nat.zero_le _
  | [x], h => by
    have := h x (by simp)
    have e : (joinB c [x]).size = x.size := by rw [joinB_len, List.map_cons, List.map_nil, join_single]; simp
    rw [e]
    simp
    omega
  | x :: y :: r, h => by
    have hx := h x (by simp)
    have ih := joinB_size c m (y :: r) (fun z hz => h z (by simp only [List.mem_cons] at hz ⊢; exact .inr hz))
    have e : (joinB c (x :: y :: r)).size = x.size + 1 + (joinB c (y :: r)).size := by
      rw [joinB_len, joinB_len, List.map_cons, List.map_cons, join_two, List.length_append, List.length_cons]
      have : x.data.toList.length = x.size := by simp
      omega
    rw [e]
    simp only [List.length_cons] at ih ⊢
    rw [Nat.mul_add (m + 1) (r.length + 1) 1]
    omega
theorem print_join_size {l : List Int} (h : ∀ e ∈ l, 0 ≤ e ∧ e < 18446744073709551616) : (joinB 46 (l.map printI)).size ≤ 21 * l.length := by
  have := joinB_size 46 20 (l.map printI) (fun x hx => by
    obtain ⟨n, hn, rfl⟩ := List.mem_map.1 hx
    exact printI_size_le (h n hn).1 (h n hn).2)
  rwa [List.length_map] at this

theorem Route1_any (e : Int) (w : World) : Calls Tryz.prog 89 (#[encI e] ++ #[]) w fun x w' => x = .returned (.bool (decide (e < 0))) ∧ Below w.heap.size w w' := by
  go_enter Tryz.func89, Tryz.ntmps89
  go_wp2
  go_ret
  exact ⟨rfl, Below.refl _ _⟩

set_option maxHeartbeats 1000000 in
theorem Route_any (r : RtD) (ao : Option Addr) (cap : Nat) (w : World) (ht : tyRt r) (hc : Cel w ao (r.es.map encI)) (hp : Pow10 w) :
    Calls Tryz.prog 43 #[.agg #[.slice ao r.es.length cap, .int .u64 r.w]] w fun e w' => e = .returned (.string (routeT r)) ∧ Below w.heap.size w w' := by
  obtain ⟨t0, t1, t2, t3⟩ := ht
  have HC := Lib.hid hc
  have HT := Lib.hid hp
  have HF := Lib.hid (fun W h => ContainsFunc_int 89 #[] (fun e => decide (e < 0)) ao cap r.es W (enters_of Tryz.func89 (by kernel_rfl) rfl) (fun W x _ _ => Route1_any x W) (by omega) h)
  clear hc hp
  cases hn : negR r with
  | true =>
    have HV := Lib.hid (show routeT r = ByteArray.empty by unfold routeT; rw [hn]; rfl)
    have hn2 : (r.es.any fun e => decide (e < 0)) = true := hn
    rw [hn2] at HF
    generalize routeT r = v at *
    clear hn hn2
    go_enter Tryz.func43, Tryz.ntmps43
    go_wp2_with fail
    obtain ⟨W, hW, c0, c1⟩ : ∃ W, W = w.alloc (Obj.cells #[.slice ao r.es.length cap, .int .u64 r.w] 48) ∧ W.cell? ⟨w.heap.size, 0, none⟩ = some (.slice ao r.es.length cap) ∧ W.cell? ⟨w.heap.size, 1, none⟩ = some (.int .u64 r.w) := ⟨_, rfl, by go_simp, by go_simp⟩
    rw [← hW]
    have HW := Lib.hid (show Below w.heap.size w W by rw [hW]; exact Below.of_al _ _)
    clear hW
    refine (HF.out _ (HC.out.go HW.out)).mono ?_
    rintro e w1 ⟨rfl, hb1⟩
    go_wp2
    go_ret
    exact ⟨by rw [HV.out]; rfl, HW.out.st hb1⟩
  | false =>
    have HV := Lib.hid (show routeT r = (printI r.w ++ ⟨#[58]⟩) ++ joinB 46 (r.es.map printI) by unfold routeT; rw [hn]; rfl)
    have hn2 : (r.es.any fun e => decide (e < 0)) = false := hn
    rw [hn2] at HF
    have hall : ∀ e ∈ r.es, 0 ≤ e ∧ e ≤ 9223372036854775807 := by
      intro e he
      rw [List.any_eq_false] at hn2
      have := hn2 e he
      simp at this
      exact ⟨by omega, (t2 e he).2⟩
    have hjs := print_join_size (l := r.es) (fun e he => by have := hall e he; omega)
    have hps := printI_size_le t0 t1
    have HIN := Lib.hid (fun k (hk : k < r.es.length) => hall r.es[k] (List.getElem_mem hk))
    have HST := Lib.hid (fun k (hk : k < r.es.length) => (show (r.es.take (k + 1)).map printI = (r.es.take k).map printI ++ [printI r.es[k]] by rw [List.take_succ_eq_append_getElem hk, List.map_append]; rfl))
    have HLN := Lib.hid (show (r.es.map printI).length = r.es.length by simp)
    have HPR := Lib.hid (fun W h => Print_any r.w t0 t1 W h)
    generalize routeT r = v at *
    clear hn hn2 hall t2
    go_enter Tryz.func43, Tryz.ntmps43
    go_wp2_with fail
    obtain ⟨W, hW, c0, c1⟩ : ∃ W, W = w.alloc (Obj.cells #[.slice ao r.es.length cap, .int .u64 r.w] 48) ∧ W.cell? ⟨w.heap.size, 0, none⟩ = some (.slice ao r.es.length cap) ∧ W.cell? ⟨w.heap.size, 1, none⟩ = some (.int .u64 r.w) := ⟨_, rfl, by go_simp, by go_simp⟩
    rw [← hW]
    have HW := Lib.hid (show Below w.heap.size w W by rw [hW]; exact Below.of_al _ _)
    clear hW
    refine (HF.out _ (HC.out.go HW.out)).mono ?_
    rintro e w1 ⟨rfl, hb1⟩
    have c0a := cell_later hb1 c0
    have c1a := cell_later hb1 c1
    have HB1 := Lib.hid (HW.out.st hb1)
    clear hb1 c0 c1 HF
    go_wp2
    go_loopg [3, 12] r.es.length (fun gg v i wr => ∃ k : Nat, k ≤ r.es.length ∧ r.es.length - k ≤ gg ∧ i = .int .i64 k ∧ Aside (wr.ownsRow w1.heap.size 9 1 v k (((r.es.take k).map printI).map encS)) ∧ Aside (Below w1.heap.size w1 wr))
    case atStart => exact ⟨0, Nat.zero_le _, by omega, rfl, by rw [List.take_zero]; exact World.ownsRow_nil _ _ _ _, Below.refl _ _⟩
    case round =>
      obtain ⟨k, hk, hg, rfl, HO, HB⟩ := hrel
      by_cases hlt : k < r.es.length
      · obtain ⟨b, o, hao, hcell⟩ := (HC.out.go (HB1.out.st HB.out)).at hlt
        subst hao
        have hlt3 : (k : Int) < (r.es.length : Int) := by omega
        have hk0 : (0 : Int) ≤ (k : Int) := by omega
        have hin := HIN.out k hlt
        have HS2 := Lib.hid (HST.out k hlt)
        generalize r.es[k] = x at *
        have HI := Lib.hid (fun W h => itoa_any x hin.1 hin.2 W h)
        generalize printI x = px at *
        go_wp2_with (first
          | (go_at_call 90; refine (HI.out _ (tabIs_go HT.out (HB1.out.st HB.out))).mono ?_; rintro e w5 ⟨rfl, hb5⟩; (have HO5 := Lib.hid (rt_owns_go HO.out hb5); have HB5 := Lib.hid (HB.out.st hb5); clear hb5))
          | (at_builtin; go_must ((with_reducible refine wpList_app w1.heap.size 9 _ 1 16 rt_elem Tryz.underlying26 _ k _ ⟨w5.heap.size, 0, none⟩ 1 1 [encS px] ?_ ?_ (HO5.out.alloc _) (rt_one _ _ _) (rt_ones _) ⟨rfl, by decide, by omega, by omega, by have := HB5.out.size; simp; omega⟩ ?_); (· rfl); (· rfl); intro g6 cap6 w6 hown hgrow hbl hat hlt6; (have HO6 := Lib.hid hown; have HB6 := Lib.hid hbl; clear hown hgrow hbl hat))))
        go_roundg (r.es.length - (k + 1))
        case measure => omega
        case rel => exact ⟨k + 1, by omega, by omega, by go_num, by rw [HS2.out, List.map_append]; exact HO6.out, (HB5.out.al _).trans HB6.out⟩
      · obtain rfl : k = r.es.length := by omega
        obtain ⟨ao8, cap8, rfl, hc8⟩ := Cel.of_owns HO.out
        have hcap := rt_owns_cap HO.out
        rw [List.take_length] at hc8
        have HC8 := Lib.hid hc8
        have c0b := cell_later HB.out c0a
        have c1b := cell_later HB.out c1a
        have HJ := Lib.hid (fun W h => sJoinB_any 46 (r.es.map printI) ao8 cap8 W (by simp; omega) (by simp; omega) (by omega) h)
        rw [HLN.out] at HJ
        generalize joinB 46 (r.es.map printI) = jt at *
        generalize printI r.w = pw at *
        clear hc8 hcap
        go_wp2_with (first
          | (go_at_call 42; refine (HPR.out _ (tabIs_go HT.out (HB1.out.st HB.out))).mono ?_; rintro e w8 ⟨rfl, hb8⟩; (have HB8 := Lib.hid ((HB1.out.st HB.out).st hb8); have HD8 := Lib.hid (HC8.out.go hb8); clear hb8))
          | (go_at_call 44; refine (HJ.out _ HD8.out).mono ?_; rintro e w9 ⟨rfl, hb9⟩))
        go_ret
        exact ⟨by rw [HV.out]; rfl, HB8.out.st hb9⟩

end Go.Proofs.YtelcmkccfjdmjaaGreatDoor
