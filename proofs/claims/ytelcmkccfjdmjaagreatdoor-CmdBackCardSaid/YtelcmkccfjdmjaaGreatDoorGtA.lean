/-
  Walks of package gtext: the words of an edge.
  Walks of package gtext: the words of a graph.
-/
import Derived.Test.YtelcmkccfjdmjaaGreatDoorProg
import Derived.Test.YtelcmkccfjdmjaaGreatDoorNumPrint
import Derived.Test.YtelcmkccfjdmjaaGreatDoorGraphD
import Derived.Test.YtelcmkccfjdmjaaGreatDoorShelf2
namespace Go.Proofs.YtelcmkccfjdmjaaGreatDoor
open Go.Proofs Go.RowKit Go.Shelf Go.Sort

theorem Itoa_any (n : Int) (h0 : 0 ≤ n) (h1 : n ≤ 9223372036854775807) (w : World) (ht : Pow10 w) :
    Calls Tryz.prog 90 #[.int .i64 n] w fun e w' => e = .returned (.string (printI n)) ∧ Below w.heap.size w w' := by
  refine (Tryz.strconv_Itoa n (by omega) h1 w ht).mono ?_
  rintro e w' ⟨rfl, k, os, rfl⟩
  refine ⟨?_, below_grow w os k⟩
  obtain ⟨u, rfl⟩ := Int.eq_ofNat_of_zero_le h0
  rw [Lib.itoa_nonneg]
  rfl

theorem refnumber_any (n : Int) (h0 : 0 ≤ n) (h1 : n ≤ 9223372036854775807) (w : World) :
    Calls Tryz.prog 145 #[.int .i64 n] w fun e w' => e = .returned (.string (printI n)) ∧ Below w.heap.size w w' := by
  have HP := Lib.hid (fun W => refPrint_any n h0 (by omega) W)
  have hw : IntKind.u64.wrap n = n := IntWalk.u64_in _ (by omega)
  generalize printI n = r at *
  go_enter Tryz.func145, Tryz.ntmps145
  go_wp2_with (go_at_call 46; refine (HP.out _).mono ?_; rintro e w1 ⟨rfl, hb1⟩)
  go_ret
  exact ⟨rfl, hb1⟩

/-- the words of an edge -/
def ofE (e : EdgeD) : List ByteArray := [printI e.f, printI e.t, printI e.w]

theorem s3_start {W : World} {a0 a1 a2 : Addr} {v0 v1 v2 : Value} (h0 : W.cell? a0 = some v0) (h1 : W.cell? a1 = some v1) (h2 : W.cell? a2 = some v2) : W.drew.cell? a0 = some v0 ∧ W.drew.cell? a1 = some v1 ∧ W.drew.cell? a2 = some v2 ∧ Below W.heap.size W W.drew := ⟨h0, h1, h2, Below.of_dr W 1⟩
theorem s3_next {W w1 w2 : World} {a0 a1 a2 : Addr} {v0 v1 v2 : Value} (hb : Below w1.heap.size w1 w2) (h : w1.cell? a0 = some v0 ∧ w1.cell? a1 = some v1 ∧ w1.cell? a2 = some v2 ∧ Below W.heap.size W w1) : w2.cell? a0 = some v0 ∧ w2.cell? a1 = some v1 ∧ w2.cell? a2 = some v2 ∧ Below W.heap.size W w2 :=
  ⟨cell_later hb h.1, cell_later hb h.2.1, cell_later hb h.2.2.1, h.2.2.2.st hb⟩

set_option maxHeartbeats 2000000 in
theorem of_any (x : EdgeD) (w : World) (hf : 0 ≤ x.f ∧ x.f ≤ 9223372036854775807) (ht : 0 ≤ x.t ∧ x.t ≤ 9223372036854775807) (hw : 0 ≤ x.w ∧ x.w < 18446744073709551616) (hp : Pow10 w) :
    Calls Tryz.prog 141 #[encE x] w fun e w' => ∃ g, e = .returned (.slice (some ⟨g, 0, none⟩) 3 3) ∧ Cel w' (some ⟨g, 0, none⟩) ((ofE x).map encS) ∧ Below w.heap.size w w' := by
  have H1 := Lib.hid (fun W h => Itoa_any x.f hf.1 hf.2 W h)
  have H2 := Lib.hid (fun W h => Itoa_any x.t ht.1 ht.2 W h)
  have H3 := Lib.hid (fun W h => Print_any x.w hw.1 hw.2 W h)
  have HE := Lib.hid (show (ofE x).map encS = [.string (printI x.f), .string (printI x.t), .string (printI x.w)] from rfl)
  have HT := Lib.hid hp
  obtain ⟨f, t, v⟩ := x
  simp only at H1 H2 H3 HE
  generalize (ofE ⟨f, t, v⟩).map encS = L at *
  generalize printI f = p1 at *
  generalize printI t = p2 at *
  generalize printI v = p3 at *
  clear hf ht hw hp
  go_enter Tryz.func141, Tryz.ntmps141
  go_wp2_with fail
  obtain ⟨W, hW, c0, c1, c2⟩ : ∃ W, W = w.alloc (Obj.cells #[.int .i64 f, .int .i64 t, .int .u64 v] 149) ∧ W.cell? ⟨w.heap.size, 0, none⟩ = some (.int .i64 f) ∧ W.cell? ⟨w.heap.size, 1, none⟩ = some (.int .i64 t) ∧ W.cell? ⟨w.heap.size, 2, none⟩ = some (.int .u64 v) := ⟨_, rfl, by go_simp, by go_simp, by go_simp⟩
  rw [← hW]
  have HW := Lib.hid (show Below w.heap.size w W by rw [hW]; exact Below.of_al _ _)
  clear hW
  go_region_held3 (fun w' => w'.cell? ⟨w.heap.size, 0, none⟩ = some (.int .i64 f) ∧ w'.cell? ⟨w.heap.size, 1, none⟩ = some (.int .i64 t) ∧ w'.cell? ⟨w.heap.size, 2, none⟩ = some (.int .u64 v) ∧ Below W.heap.size W w') (first | exact s3_start c0 c1 c2 | exact s3_next (by assumption) (by assumption) | exact s3_next (Below.of_al _ _) (by assumption)) (first
    | (go_at_call_of 90 (Value.int IntKind.i64 f); refine (H1.out _ (tabIs_go HT.out (HW.out.st (by go_split_ands; assumption)))).mono ?_; rintro e w1 ⟨rfl, hb1⟩)
    | (go_at_call_of 90 (Value.int IntKind.i64 t); refine (H2.out _ (tabIs_go HT.out (HW.out.st (by go_split_ands; assumption)))).mono ?_; rintro e w2 ⟨rfl, hb2⟩)
    | (go_at_call 42; refine (H3.out _ (tabIs_go HT.out (HW.out.st (by go_split_ands; assumption)))).mono ?_; rintro e w3 ⟨rfl, hb3⟩))
  go_wp2
  go_ret
  refine ⟨w3.heap.size, rfl, ?_, ?_⟩
  · rw [HE.out]; exact cel_new _ _ _ _
  · have := HW.out; repeat (first | exact Below.refl _ _ | refine Below.al ?_ _ | refine Below.dr ?_ _ | refine Below.drew ?_ | assumption | (refine Below.st ?_ (by assumption)))

end Go.Proofs.YtelcmkccfjdmjaaGreatDoor

namespace Go.Proofs.YtelcmkccfjdmjaaGreatDoor
open Go.Proofs Go.RowKit Go.Shelf Go.Sort

theorem elem_str : Elem Tryz.prog 9 (.string ByteArray.empty) 1 16 := ⟨by kernel_rfl, rfl, by decide⟩

/-- the words of a graph, as far as its first k edges -/
def wordsK (g : GD) (k : Nat) : List ByteArray := [printI g.n, printI (g.es.length : Int)] ++ (g.es.take k).flatMap ofE
theorem wordsK_zero (g : GD) : wordsK g 0 = [printI g.n, printI (g.es.length : Int)] := by simp [wordsK]
theorem wordsK_step (g : GD) (k : Nat) (h : k < g.es.length) : wordsK g (k + 1) = wordsK g k ++ ofE g.es[k] := by
  unfold wordsK
  rw [List.take_succ_eq_append_getElem h, List.flatMap_append]
  simp
theorem wordsK_length (g : GD) (k : Nat) (h : k ≤ g.es.length) : (wordsK g k).length = 2 + 3 * k := by
  induction k with
  | zero => simp [wordsK]
  | succ k ih =>
    rw [wordsK_step g k (by omega), List.length_append, ih (by omega)]
    simp [ofE]
    omega
/-- the words of a graph, and the fault's number -/
def wordsG (g : GD) : List ByteArray × Int := if rightG g ≠ 0 then ([], 1) else if 16384 < 2 + 3 * g.es.length then ([], 5) else (wordsK g g.es.length, 0)

theorem gright_of {g : GD} (h : rightG g = 0) : 1 ≤ g.n ∧ g.n ≤ 4096 ∧ g.es.length ≤ 16384 ∧ ∀ e ∈ g.es, 0 ≤ e.f ∧ e.f < g.n ∧ 0 ≤ e.t ∧ e.t < g.n ∧ 1 ≤ e.w ∧ e.w ≤ 4294967296 := by
  unfold rightG at h
  split at h
  · cases h
  · rename_i h1
    split at h
    · cases h
    · rename_i h2
      split at h
      · cases h
      · rename_i h3
        split at h
        · cases h
        · rename_i h4
          refine ⟨by omega, by omega, by omega, fun e he => ?_⟩
          have k3 : g.es.any (looseB g.n) = false := by simpa using h3
          have k4 : g.es.any (fun e => !weightB e.w) = false := by simpa using h4
          rw [List.any_eq_false] at k3 k4
          have a := k3 e he
          have b := k4 e he
          unfold looseB nodeB at a
          unfold weightB at b
          simp at a b
          omega

/-- what Words leaves -/
def GWordsPost (w : World) (r : List ByteArray × Int) (e : Ending) (w' : World) : Prop :=
  ∃ ao cap, e = .returned (.tuple #[.slice ao r.1.length cap, .int .i64 r.2]) ∧ Cel w' ao (r.1.map encS) ∧ Below w.heap.size w w'

theorem s2_start {W : World} {a0 a1 : Addr} {v0 v1 : Value} (h0 : W.cell? a0 = some v0) (h1 : W.cell? a1 = some v1) : W.drew.cell? a0 = some v0 ∧ W.drew.cell? a1 = some v1 ∧ Below W.heap.size W W.drew := ⟨h0, h1, Below.of_dr W 1⟩
theorem s2_next {W w1 w2 : World} {a0 a1 : Addr} {v0 v1 : Value} (hb : Below w1.heap.size w1 w2) (h : w1.cell? a0 = some v0 ∧ w1.cell? a1 = some v1 ∧ Below W.heap.size W w1) : w2.cell? a0 = some v0 ∧ w2.cell? a1 = some v1 ∧ Below W.heap.size W w2 :=
  ⟨cell_later hb h.1, cell_later hb h.2.1, h.2.2.st hb⟩
theorem owns_goD {w w' : World} {base : Nat} {e : TypeId} {size n : Nat} {v : Value} {xs : List Value} (h : w.ownsRow base e size v n xs) (hb : Below w.heap.size w w') : w'.ownsRow base e size v n xs := by
  refine ⟨h.1, ?_⟩
  rcases h.2 with h2 | ⟨g, cap, cur, hv, hbg, hg, r⟩
  · exact .inl h2
  · exact .inr ⟨g, cap, cur, hv, hbg, by rw [hb.block g (Array.getElem?_eq_some_iff.1 hg).1]; exact hg, r⟩
theorem cel_news {w : World} {g : Nat} {l : List ByteArray} (h : Cel w (some ⟨g, 0, none⟩) (l.map encS)) : ∀ j u, (l.map encS)[j]? = some u → w.cell? ((⟨g, 0, none⟩ : Addr).add j) = some u := by
  intro j u hu
  obtain ⟨b, o, e, h1⟩ := h j u hu
  cases e
  rw [Addr.add_lit]
  exact h1
theorem one_strs (l : List ByteArray) : ∀ u ∈ l.map encS, u.oneCell' = true := by
  intro u hu
  obtain ⟨s, _, rfl⟩ := List.mem_map.1 hu
  rfl

set_option maxHeartbeats 4000000 in
theorem GWords_any (g : GD) (ao : Option Addr) (cap : Nat) (w : World) (hl : g.es.length ≤ 9223372036854775807) (hc : Cel w ao (flat g.es)) (hp : Pow10 w) :
    Calls Tryz.prog 99 #[.agg #[.int .i64 g.n, .slice ao g.es.length cap]] w (GWordsPost w (wordsG g)) := by
  have HC := Lib.hid hc
  have HT := Lib.hid hp
  have HR := Lib.hid (fun W h => gRight_any g ao cap W hl h)
  clear hc hp
  by_cases h1 : rightG g = 0
  · obtain ⟨n0, n1, m0, hes⟩ := gright_of h1
    by_cases h2 : 16384 < 2 + 3 * g.es.length
    · have HQ := Lib.hid (show wordsG g = ([], 5) by unfold wordsG; rw [if_neg (by simp [h1]), if_pos h2])
      rw [h1] at HR
      generalize wordsG g = r at *
      clear h1 hes
      go_enter Tryz.func99, Tryz.ntmps99
      go_wp2_with fail
      obtain ⟨W, hW, c0, c1, hsW⟩ : ∃ W, W = w.alloc (Obj.cells #[.int .i64 g.n, .slice ao g.es.length cap] 53) ∧ W.cell? ⟨w.heap.size, 0, none⟩ = some (.int .i64 g.n) ∧ W.cell? ⟨w.heap.size, 1, none⟩ = some (.slice ao g.es.length cap) ∧ w.heap.size < W.heap.size := ⟨_, rfl, by go_simp, by go_simp, by simp⟩
      rw [← hW]
      have HW := Lib.hid (show Below w.heap.size w W by rw [hW]; repeat (first | exact Below.refl _ _ | refine Below.al ?_ _ | refine Below.dr ?_ _ | refine Below.drew ?_ | assumption | (refine Below.st ?_ (by assumption))))
      clear hW
      refine (HR.out _ (HC.out.go HW.out)).mono ?_
      rintro e w1 ⟨rfl, hb1⟩
      have m0' := cell_later hb1 c0
      have m1' := cell_later hb1 c1
      go_wp2
      go_ret2
      exact ⟨none, 0, by rw [HQ.out]; rfl, by rw [HQ.out]; exact Cel.nil _ _, HW.out.st hb1⟩
    · have HQ := Lib.hid (show wordsG g = (wordsK g g.es.length, 0) by unfold wordsG; rw [if_neg (by simp [h1]), if_neg h2])
      rw [h1] at HR
      have HI1 := Lib.hid (fun W h => Itoa_any g.n (by omega) (by omega) W h)
      have HI2 := Lib.hid (fun W h => Itoa_any (g.es.length : Int) (by omega) (by omega) W h)
      have HK0 := Lib.hid (show (wordsK g 0).map encS = [.string (printI g.n), .string (printI (g.es.length : Int))] by rw [wordsK_zero]; rfl)
      have HKS := Lib.hid (wordsK_step g)
      have HKL := Lib.hid (wordsK_length g)
      have HES := Lib.hid hes
      generalize wordsG g = r at *
      clear h1 hes
      generalize printI g.n = p1 at *
      generalize printI (g.es.length : Int) = p2 at *
      go_enter Tryz.func99, Tryz.ntmps99
      go_wp2_with fail
      obtain ⟨W, hW, c0, c1, hsW⟩ : ∃ W, W = w.alloc (Obj.cells #[.int .i64 g.n, .slice ao g.es.length cap] 53) ∧ W.cell? ⟨w.heap.size, 0, none⟩ = some (.int .i64 g.n) ∧ W.cell? ⟨w.heap.size, 1, none⟩ = some (.slice ao g.es.length cap) ∧ w.heap.size < W.heap.size := ⟨_, rfl, by go_simp, by go_simp, by simp⟩
      rw [← hW]
      have HW := Lib.hid (show Below w.heap.size w W by rw [hW]; repeat (first | exact Below.refl _ _ | refine Below.al ?_ _ | refine Below.dr ?_ _ | refine Below.drew ?_ | assumption | (refine Below.st ?_ (by assumption))))
      clear hW
      refine (HR.out _ (HC.out.go HW.out)).mono ?_
      rintro e w1 ⟨rfl, hb1⟩
      have k0 := cell_later hb1 c0
      have k1 := cell_later hb1 c1
      have HW1 := Lib.hid (HW.out.st hb1)
      have hs1 : w.heap.size < w1.heap.size := by have := hb1.size; omega
      clear c0 c1 hb1 HW hsW
      go_wp2_with fail
      go_region_held3 (fun w' => w'.cell? ⟨w.heap.size, 0, none⟩ = some (.int .i64 g.n) ∧ w'.cell? ⟨w.heap.size, 1, none⟩ = some (.slice ao g.es.length cap) ∧ Below w1.heap.size w1 w') (first | exact s2_start k0 k1 | exact s2_next (by assumption) (by assumption) | exact s2_next (Below.of_al _ _) (by assumption)) (first
        | (go_at_call_of 90 (Value.int IntKind.i64 g.n); refine (HI1.out _ (tabIs_go HT.out (HW1.out.st (by go_split_ands; assumption)))).mono ?_; rintro e w2 ⟨rfl, hb2⟩)
        | (go_at_call 90; refine (HI2.out _ (tabIs_go HT.out (HW1.out.st (by go_split_ands; assumption)))).mono ?_; rintro e w3 ⟨rfl, hb3⟩))
      obtain ⟨W4, hW4⟩ : ∃ W4, W4 = w3.alloc (Obj.cells #[Value.string p1, Value.string p2] 9) := ⟨_, rfl⟩
      have HO4 := Lib.hid (show W4.ownsRow w.heap.size 9 1 (.slice (some ⟨w3.heap.size, 0, none⟩) 2 2) 2 ((wordsK g 0).map encS) by rw [HK0.out, hW4]; exact World.ownsRow_lit (base := w.heap.size) (e := 9) (size := 1) w3 #[.string p1, .string p2] 2 (by have a : w1.heap.size ≤ w2.heap.size := hb2.size; have b := hb3.size; omega) (by decide) rfl)
      rename_i hHeld
      rw [← hW4] at hHeld ⊢
      clear hW4
      obtain ⟨n0', n1', hb4⟩ := hHeld
      have HW4 := Lib.hid (HW1.out.st hb4)
      clear hb4 hb2 hb3 k0 k1 HI1 HI2 HK0
      generalize w3.heap.size = q3 at *
      go_wp2_with fail
      go_loopg [4, 29] g.es.length (fun gq v4 v29 wr => ∃ (k a c : Nat), k ≤ g.es.length ∧ g.es.length - k ≤ gq ∧ v29 = .int .i64 k ∧ v4 = .slice (some ⟨a, 0, none⟩) (2 + 3 * k) c ∧ Aside (wr.ownsRow w.heap.size 9 1 (.slice (some ⟨a, 0, none⟩) (2 + 3 * k) c) (2 + 3 * k) ((wordsK g k).map encS)) ∧ Aside (Below w.heap.size w wr))
      case atStart => exact ⟨0, q3, 2, Nat.zero_le _, by omega, rfl, rfl, HO4.out, HW4.out⟩
      case round =>
        obtain ⟨k, a, c, hk, hg, rfl, rfl, HO, HB⟩ := hrel
        by_cases hlt : k < g.es.length
        · obtain ⟨b, o, hao, f1, f2, f3⟩ := (HC.out.go HB.out).edge hlt
          have HE := Lib.hid (HES.out _ (List.getElem_mem hlt))
          have HS := Lib.hid (HKS.out k hlt)
          subst hao
          obtain ⟨x, hxe⟩ : ∃ x, g.es[k] = x := ⟨_, rfl⟩
          rw [hxe] at f1 f2 f3 HE HS
          have HF := Lib.hid (fun W h => of_any x W (by have := HE.out; omega) (by have := HE.out; omega) (by have := HE.out; omega) h)
          clear hxe HR HES HKS
          go_wp2_with (first
            | (go_at_call 141; refine (HF.out _ (tabIs_go HT.out (by have := HB.out; repeat (first | exact Below.refl _ _ | refine Below.al ?_ _ | refine Below.dr ?_ _ | refine Below.drew ?_ | assumption | (refine Below.st ?_ (by assumption)))))).mono ?_; rintro e w5 ⟨p5, rfl, hc5, hb5⟩; (have HC5 := Lib.hid hc5; have HO5 := Lib.hid (owns_goD HO.out (show Below wr.heap.size wr w5 by repeat (first | exact Below.refl _ _ | refine Below.al ?_ _ | refine Below.dr ?_ _ | refine Below.drew ?_ | assumption | (refine Below.st ?_ (by assumption))))); have HB5 := Lib.hid (show Below w.heap.size w w5 by have := HB.out; repeat (first | exact Below.refl _ _ | refine Below.al ?_ _ | refine Below.dr ?_ _ | refine Below.drew ?_ | assumption | (refine Below.st ?_ (by assumption)))); clear hc5 hb5))
            | (at_builtin; go_must ((with_reducible refine wpList_app w.heap.size 9 _ 1 16 elem_str Tryz.underlying26 (.slice (some ⟨a, 0, none⟩) (2 + 3 * k) c) (2 + 3 * k) _ ⟨p5, 0, none⟩ 3 3 ((ofE x).map encS) ?_ ?_ HO5.out (cel_news HC5.out) (one_strs _) ⟨rfl, by decide, by omega, by omega, by exact HB5.out.size⟩ ?_); (· rfl); (· rfl); intro g6 cap6 w6 hown hgrow hbl hat hlt6; (have HO6 := Lib.hid hown; have HB6 := Lib.hid hbl; clear hown hgrow hbl hat))))
          go_roundg (g.es.length - (k + 1))
          case measure => omega
          case rel => exact ⟨k + 1, g6, cap6, by omega, by omega, by go_num, rfl, by rw [HS.out, List.map_append]; exact HO6.out, HB5.out.trans HB6.out⟩
        · obtain rfl : k = g.es.length := by omega
          obtain ⟨ao7, cap7, e7, hc7⟩ := Cel.of_owns HO.out
          cases e7
          have HL := Lib.hid (HKL.out _ (Nat.le_refl _))
          have HC7 := Lib.hid hc7
          clear hc7
          go_wp2
          go_ret2
          exact ⟨_, c, by rw [HQ.out]; show _ = Ending.returned (.tuple #[.slice _ (wordsK g g.es.length).length c, .int .i64 0]); rw [HL.out]; rfl, by rw [HQ.out]; exact HC7.out, HB.out⟩
  · have HQ := Lib.hid (show wordsG g = ([], 1) by unfold wordsG; rw [if_pos h1])
    have hne : (rightG g != 0) = true := by simpa using h1
    generalize rightG g = q at *
    generalize wordsG g = r at *
    go_enter Tryz.func99, Tryz.ntmps99
    go_wp2_with fail
    obtain ⟨W, hW, c0, c1, hsW⟩ : ∃ W, W = w.alloc (Obj.cells #[.int .i64 g.n, .slice ao g.es.length cap] 53) ∧ W.cell? ⟨w.heap.size, 0, none⟩ = some (.int .i64 g.n) ∧ W.cell? ⟨w.heap.size, 1, none⟩ = some (.slice ao g.es.length cap) ∧ w.heap.size < W.heap.size := ⟨_, rfl, by go_simp, by go_simp, by simp⟩
    rw [← hW]
    have HW := Lib.hid (show Below w.heap.size w W by rw [hW]; repeat (first | exact Below.refl _ _ | refine Below.al ?_ _ | refine Below.dr ?_ _ | refine Below.drew ?_ | assumption | (refine Below.st ?_ (by assumption))))
    clear hW
    refine (HR.out _ (HC.out.go HW.out)).mono ?_
    rintro e w1 ⟨rfl, hb1⟩
    go_wp2
    go_ret2
    exact ⟨none, 0, by rw [HQ.out]; rfl, by rw [HQ.out]; exact Cel.nil _ _, HW.out.st hb1⟩

end Go.Proofs.YtelcmkccfjdmjaaGreatDoor
