/-
  A reply's line, part by part (plain Lean), and the document's Print.
-/
import Derived.Test.YtelcmkccfjdmjaaGreatDoorProg
import Derived.Test.YtelcmkccfjdmjaaGreatDoorRpS
namespace Go.Proofs.YtelcmkccfjdmjaaGreatDoor
open Go Go.Proofs Go.RowKit Go.Shelf Go.Sort

/-- a reply whose parts are short, its numbers as its types have them -/
structure SmR (r : RepD) : Prop where
  n1 : r.nums.length ≤ 2000
  n2 : r.rts.length ≤ 2000
  n3 : r.words.length ≤ 2000
  nm : r.name.size ≤ 2000
  ws : ∀ x ∈ r.words, x.size ≤ 2000
  nu : ∀ n ∈ r.nums, 0 ≤ n ∧ n < 18446744073709551616
  rt : ∀ x ∈ r.rts, tyRt x ∧ x.es.length ≤ 2000
theorem SmR.lowR {r : RepD} (h : SmR r) : lowR r := ⟨by have := h.n1; omega, by have := h.n2; omega, by have := h.n3; omega⟩
theorem SmR.lowE {r : RepD} (h : SmR r) : lowE r := fun x hx => by have := (h.rt x hx).2; omega
theorem SmR.lowW {r : RepD} (h : SmR r) : lowW r := ⟨by have := h.nm; omega, fun x hx => by have := h.ws x hx; omega⟩

theorem join_snoc (c : UInt8) : ∀ (l : List (List UInt8)) (x : List UInt8), l ≠ [] → Lib.join (l ++ [x]) [c] = Lib.join l [c] ++ c :: x
  | [], x, h => absurd rfl h
  | [a], x, _ => by rw [List.singleton_append, join_two, join_single, join_single]
  | a :: b :: l, x, _ => by
    have ih := join_snoc c (b :: l) x (by simp)
    rw [List.cons_append, List.cons_append, join_two, join_two]
    rw [List.cons_append] at ih
    rw [ih]
    simp
theorem joinB_snoc (c : UInt8) (l : List ByteArray) (x : ByteArray) (h : l ≠ []) : joinB c (l ++ [x]) = (joinB c l ++ ⟨#[c]⟩) ++ x := by
  apply Go.WideShapes.bytes_inj
  rw [joinB_data, List.map_append, List.map_singleton, join_snoc c _ _ (by simpa using h)]
  simp [joinB_data]

def tokP (r : RepD) (i j k : Nat) : List ByteArray := okW :: r.name :: ((r.nums.take i).map printI ++ (r.rts.take j).map routeT ++ (r.words.take k).map eqW)
def lineP (r : RepD) (i j k : Nat) : ByteArray := joinB 32 (tokP r i j k)
theorem lineP_num {r : RepD} {i : Nat} (h : i < r.nums.length) : lineP r (i + 1) 0 0 = (lineP r i 0 0 ++ ⟨#[32]⟩) ++ printI r.nums[i] := by
  unfold lineP
  rw [← joinB_snoc 32 _ _ (by unfold tokP; simp)]
  congr 1
  unfold tokP
  rw [List.take_succ_eq_append_getElem h]
  simp only [List.map_append, List.map_cons, List.map_nil, List.take_zero, List.append_nil, List.cons_append, List.append_assoc, List.nil_append]
theorem lineP_rt {r : RepD} {j : Nat} (h : j < r.rts.length) : lineP r r.nums.length (j + 1) 0 = (lineP r r.nums.length j 0 ++ ⟨#[32]⟩) ++ routeT r.rts[j] := by
  unfold lineP
  rw [← joinB_snoc 32 _ _ (by unfold tokP; simp)]
  congr 1
  unfold tokP
  rw [List.take_succ_eq_append_getElem h]
  simp only [List.map_append, List.map_cons, List.map_nil, List.take_zero, List.append_nil, List.cons_append, List.append_assoc, List.nil_append]
theorem lineP_wordE {r : RepD} {k : Nat} (h : k < r.words.length) : lineP r r.nums.length r.rts.length (k + 1) = (lineP r r.nums.length r.rts.length k ++ ⟨#[32]⟩) ++ eqW r.words[k] := by
  unfold lineP
  rw [← joinB_snoc 32 _ _ (by unfold tokP; simp)]
  congr 1
  unfold tokP
  rw [List.take_succ_eq_append_getElem h]
  simp only [List.map_append, List.map_cons, List.map_nil, List.take_zero, List.append_nil, List.cons_append, List.append_assoc, List.nil_append]
theorem lineP_word {r : RepD} {k : Nat} (h : k < r.words.length) : lineP r r.nums.length r.rts.length (k + 1) = (lineP r r.nums.length r.rts.length k ++ ⟨#[32, 61]⟩) ++ r.words[k] := by
  rw [lineP_wordE h]
  apply Go.WideShapes.bytes_inj
  simp [eqW]
theorem lineP_start (r : RepD) : lineP r 0 0 0 = ⟨#[111, 107, 32]⟩ ++ r.name := by
  unfold lineP tokP
  apply Go.WideShapes.bytes_inj
  rw [joinB_data]
  simp [Lib.join, okW, bs]
theorem lineP_end (r : RepD) : lineP r r.nums.length r.rts.length r.words.length = joinB 32 (toksR r) := by
  unfold lineP tokP toksR
  rw [List.take_length, List.take_length, List.take_length]
theorem routeT_size {x : RtD} (h : tyRt x) (hl : x.es.length ≤ 2000) : (routeT x).size ≤ 50000 := by
  unfold routeT
  cases hn : negR x with
  | true => simp
  | false =>
    have hall : ∀ e ∈ x.es, 0 ≤ e ∧ e < 18446744073709551616 := by
      intro e he
      unfold negR at hn
      rw [List.any_eq_false] at hn
      have := hn e he
      have := (h.2.2.1 e he).2
      simp at *
      omega
    have h1 := print_join_size hall
    have h2 := printI_size_le h.1 h.2.1
    simp only [Bool.false_eq_true, if_false, ByteArray.size_append]
    have h3 : (⟨#[58]⟩ : ByteArray).size = 1 := rfl
    omega
theorem tokP_size {r : RepD} (h : SmR r) (i j k : Nat) : ∀ x ∈ tokP r i j k, x.size ≤ 50000 := by
  intro x hx
  unfold tokP at hx
  simp only [List.mem_cons, List.mem_append, List.mem_map] at hx
  rcases hx with rfl | rfl | (⟨n, hn, rfl⟩ | ⟨y, hy, rfl⟩) | ⟨u, hu, rfl⟩
  · decide
  · have := h.nm; omega
  · have h1 := h.nu n (List.mem_of_mem_take hn)
    have := printI_size_le h1.1 h1.2
    omega
  · have h1 := h.rt y (List.mem_of_mem_take hy)
    exact routeT_size h1.1 h1.2
  · have h1 := h.ws u (List.mem_of_mem_take hu)
    unfold eqW
    rw [ByteArray.size_append]
    have h3 : (⟨#[61]⟩ : ByteArray).size = 1 := rfl
    omega
theorem tokP_length {r : RepD} (h : SmR r) (i j k : Nat) : (tokP r i j k).length ≤ 6002 := by
  unfold tokP
  simp only [List.length_cons, List.length_append, List.length_map, List.length_take]
  have := h.n1
  have := h.n2
  have := h.n3
  omega
theorem lineP_size {r : RepD} (h : SmR r) (i j k : Nat) : (lineP r i j k).size ≤ 400000000 := by
  have h1 := joinB_size 32 50000 _ (tokP_size h i j k)
  have h2 := tokP_length h i j k
  unfold lineP
  have h3 : (50000 + 1) * (tokP r i j k).length ≤ (50000 + 1) * 6002 := Nat.mul_le_mul_left _ h2
  omega

set_option maxRecDepth 100000 in
set_option maxHeartbeats 8000000 in
theorem refReplyPrint_any (r : RepD) (v : Value) (w : World) (hv : RepV w r v) (hs : SmR r) :
    Calls Tryz.prog 16 #[v] w fun e w' => e = .returned (.string (printR r)) ∧ Below w.heap.size w w' := by
  have HR := Lib.hid (fun W h => refReplyRight_any r v W h hs.lowR hs.lowE hs.lowW)
  have HRV := Lib.hid hv
  obtain ⟨an, cn, ar, cr, aw, cw, ts, rfl, han, har, haw, hat, hac⟩ := hv
  obtain ⟨W0, hW0⟩ : ∃ W0, W0 = w.alloc (Obj.cells #[.int .i64 r.f, .string r.name, .slice an r.nums.length cn, .slice ar r.rts.length cr, .slice aw r.words.length cw] 31) := ⟨_, rfl⟩
  have HP := Lib.hid (show P5 W0 w.heap.size (.int .i64 r.f) (.string r.name) (.slice an r.nums.length cn) (.slice ar r.rts.length cr) (.slice aw r.words.length cw) by rw [hW0]; exact P5.new _ _ _ _ _ _ _)
  have HB0 := Lib.hid (show Below w.heap.size w W0 by rw [hW0]; exact Below.of_al _ _)
  have HWE := Lib.hid hW0.symm
  clear hW0
  cases hr : rightR r with
  | false =>
    have HV := Lib.hid (show printR r = ByteArray.empty by unfold printR; rw [if_pos hr])
    rw [hr] at HR
    generalize printR r = q at *
    clear hr han har haw hat hac hs
    go_enter Tryz.func16, Tryz.ntmps16
    go_wp2_with (go_at_call 18; rw [HWE.out]; refine (HR.out _ (HRV.out.go HB0.out)).mono ?_; rintro e w1 ⟨rfl, hb1⟩)
    go_ret
    exact ⟨by rw [HV.out]; rfl, HB0.out.st hb1⟩
  | true =>
    rw [hr] at HR
    by_cases hf : r.f = 0
    · have HV := Lib.hid (show printR r = lineP r r.nums.length r.rts.length r.words.length by rw [lineP_end]; unfold printR; rw [if_neg (by rw [hr]; simp), if_neg (by simpa using hf)])
      have e1 : ts.length = r.rts.length := by rw [← hat]; simp
      have HT0 := Lib.hid (lineP_start r)
      have HT1 := Lib.hid (fun i h => lineP_num (r := r) (i := i) h)
      have HT2 := Lib.hid (fun i (h : i < ts.length) => (by
        have h2 : i < r.rts.length := by omega
        have h3 := lineP_rt h2
        have h4 : r.rts[i] = ts[i].r := by simp only [← hat, List.getElem_map]
        rw [h4] at h3
        exact h3 : lineP r r.nums.length (i + 1) 0 = (lineP r r.nums.length i 0 ++ ⟨#[32]⟩) ++ routeT ts[i].r))
      have HT3 := Lib.hid (fun i h => lineP_word (r := r) (k := i) h)
      have HSZ := Lib.hid (lineP_size hs)
      have HNU := Lib.hid (fun i (h : i < r.nums.length) => hs.nu r.nums[i] (List.getElem_mem h))
      have HTY := Lib.hid (fun i (h : i < ts.length) => (by
        have h4 : ts[i].r ∈ r.rts := by rw [← hat]; exact List.mem_map_of_mem (List.getElem_mem h)
        exact hs.rt _ h4 : tyRt ts[i].r ∧ ts[i].r.es.length ≤ 2000))
      have HWZ := Lib.hid (fun i (h : i < r.words.length) => hs.ws r.words[i] (List.getElem_mem h))
      have HLI := Lib.hid (lie_of hac hat hs.lowE)
      have HN := Lib.hid e1
      have HAN := Lib.hid han
      have HAR := Lib.hid har
      have HAW := Lib.hid haw
      have l1 := hs.n1
      have l2 := hs.n2
      have l3 := hs.n3
      have l4 := hs.nm
      have hf2 : (r.f != 0) = false := by simpa using hf
      generalize lineP r = T at *
      generalize printR r = q at *
      clear hf hr hs han har haw hat hac e1
      go_enter Tryz.func16, Tryz.ntmps16
      go_wp2_with (go_at_call 18; rw [HWE.out]; refine (HR.out _ (HRV.out.go HB0.out)).mono ?_; rintro e w1 ⟨rfl, hb1⟩; (have HP1 := Lib.hid (HP.out.go hb1); have HB1 := Lib.hid (HB0.out.st hb1)); obtain ⟨x0, x1, x2, x3, x4, -⟩ := HP1.out)
      clear x0 x1 x2 x3 x4
      go_loopg [3, 4] r.nums.length (fun g v3 v4 wr => ∃ k : Nat, k ≤ r.nums.length ∧ r.nums.length - k ≤ g ∧ v4 = .int .i64 k ∧ v3 = .string (T k 0 0) ∧ Aside (Below w1.heap.size w1 wr))
      case atStart => exact ⟨0, Nat.zero_le _, by omega, rfl, by rw [HT0.out], Below.refl _ _⟩
      case round =>
        obtain ⟨k, hk, hg, rfl, rfl, HB⟩ := hrel
        have hk0 : (0 : Int) ≤ (k : Int) := by omega
        have hzt := HSZ.out k 0 0
        obtain ⟨x0, x1, x2, x3, x4, -⟩ := HP1.out.go HB.out
        by_cases hlt : k < r.nums.length
        · have hlt3 : (k : Int) < (r.nums.length : Int) := by omega
          obtain ⟨b1, o1, hao, y0⟩ := (HAN.out.go (HB1.out.st HB.out)).at hlt
          subst hao
          have HX := Lib.hid (HT1.out k hlt)
          have hnx := HNU.out k hlt
          have hps := printI_size_le hnx.1 hnx.2
          have HPI := Lib.hid (fun W => refPrint_any r.nums[k] hnx.1 hnx.2 W)
          generalize r.nums[k] = x at *
          generalize printI x = px at *
          generalize T k 0 0 = t0 at *
          go_wp2_with (go_at_call 46; refine (HPI.out _).mono ?_; rintro e w6 ⟨rfl, hb6⟩)
          go_roundg (r.nums.length - (k + 1))
          case measure => omega
          case rel => exact ⟨k + 1, by omega, by omega, by go_num, by rw [HX.out], HB.out.st hb6⟩
        · obtain rfl : k = r.nums.length := by omega
          obtain ⟨w2, hw2⟩ : ∃ w2, w2 = wr := ⟨_, rfl⟩
          subst hw2
          have HB2 := Lib.hid (HB1.out.st HB.out)
          have HP2 := Lib.hid (HP1.out.go HB.out)
          go_wp2
          clear x0 x1 x2 x3 x4
          go_loopg [3, 5] r.rts.length (fun g v3 v5 wr => ∃ k : Nat, k ≤ r.rts.length ∧ r.rts.length - k ≤ g ∧ v5 = .int .i64 k ∧ v3 = .string (T r.nums.length k 0) ∧ Aside (Below w2.heap.size w2 wr))
          case atStart => exact ⟨0, Nat.zero_le _, by omega, rfl, rfl, Below.refl _ _⟩
          case round =>
            obtain ⟨k, hk, hg, rfl, rfl, HB⟩ := hrel
            have hk0 : (0 : Int) ≤ (k : Int) := by omega
            have hzt := HSZ.out r.nums.length k 0
            obtain ⟨x0, x1, x2, x3, x4, -⟩ := HP2.out.go HB.out
            by_cases hlt : k < r.rts.length
            · have hlt3 : (k : Int) < (r.rts.length : Int) := by omega
              have hltt : k < ts.length := by have := HN.out; omega
              obtain ⟨b1, o1, hao, y0, y1⟩ := (HAR.out.go (HB2.out.st HB.out)).rt hltt
              subst hao
              have HX := Lib.hid (HT2.out k hltt)
              have hty := HTY.out k hltt
              have hps := routeT_size hty.1 hty.2
              have hc := (HLI.out ts[k] (List.getElem_mem hltt)).1.go (HB2.out.st HB.out)
              have HC := Lib.hid hc
              have HPI := Lib.hid (fun W (h : Cel W ts[k].ao (ts[k].r.es.map encI)) => refRoute_any ts[k].r ts[k].ao ts[k].cap W hty.1 h)
              clear hc hty
              generalize ts[k] = x at *
              generalize routeT x.r = px at *
              generalize T r.nums.length k 0 = t0 at *
              go_wp2_with (go_at_call 47; refine (HPI.out _ HC.out).mono ?_; rintro e w6 ⟨rfl, hb6⟩)
              go_roundg (r.rts.length - (k + 1))
              case measure => omega
              case rel => exact ⟨k + 1, by omega, by omega, by go_num, by rw [HX.out], HB.out.st hb6⟩
            · obtain rfl : k = r.rts.length := by omega
              obtain ⟨w3, hw3⟩ : ∃ w3, w3 = wr := ⟨_, rfl⟩
              subst hw3
              have HB3 := Lib.hid (HB2.out.st HB.out)
              have HP3 := Lib.hid (HP2.out.go HB.out)
              go_wp2
              clear x0 x1 x2 x3 x4
              go_loopg [3, 6] r.words.length (fun g v3 v6 wr => ∃ k : Nat, k ≤ r.words.length ∧ r.words.length - k ≤ g ∧ v6 = .int .i64 k ∧ v3 = .string (T r.nums.length r.rts.length k) ∧ wr = w3)
              case atStart => exact ⟨0, Nat.zero_le _, by omega, rfl, rfl, rfl⟩
              case round =>
                obtain ⟨k, hk, hg, rfl, rfl, rfl⟩ := hrel
                have hk0 : (0 : Int) ≤ (k : Int) := by omega
                have hzt := HSZ.out r.nums.length r.rts.length k
                obtain ⟨x0, x1, x2, x3, x4, -⟩ := HP3.out
                by_cases hlt : k < r.words.length
                · have hlt3 : (k : Int) < (r.words.length : Int) := by omega
                  obtain ⟨b1, o1, hao, y0⟩ := (HAW.out.go HB3.out).at hlt
                  subst hao
                  have HX := Lib.hid (HT3.out k hlt)
                  have hps := HWZ.out k hlt
                  generalize r.words[k] = x at *
                  generalize T r.nums.length r.rts.length k = t0 at *
                  go_wp2
                  go_roundg (r.words.length - (k + 1))
                  case measure => omega
                  case rel => exact ⟨k + 1, by omega, by omega, by go_num, by rw [HX.out], rfl⟩
                · obtain rfl : k = r.words.length := by omega
                  go_wp2
                  go_ret
                  exact ⟨by rw [HV.out]; rfl, HB3.out⟩
    · have hj : joinB 32 [errW, wordOf r.f] = bs [101, 114, 114, 111, 114, 32] ++ wordOf r.f := by
        apply Go.WideShapes.bytes_inj
        rw [joinB_data]
        simp [Lib.join, errW, bs]
      have HV := Lib.hid (show printR r = bs [101, 114, 114, 111, 114, 32] ++ wordOf r.f by unfold printR; rw [if_neg (by rw [hr]; simp), if_pos hf, hj])
      have HWD := Lib.hid (fun W => ref04Word_any r.f W)
      have hwz := wordOf_size r.f
      have hf2 : (r.f != 0) = true := by simpa using hf
      generalize printR r = q at *
      generalize wordOf r.f = wd at *
      clear hf hr hs han har haw hat hac hj
      go_enter Tryz.func16, Tryz.ntmps16
      go_wp2_with (first
        | (go_at_call 18; rw [HWE.out]; refine (HR.out _ (HRV.out.go HB0.out)).mono ?_; rintro e w1 ⟨rfl, hb1⟩; (have HP1 := Lib.hid (HP.out.go hb1); have HB1 := Lib.hid (HB0.out.st hb1)); obtain ⟨x0, x1, x2, x3, x4, -⟩ := HP1.out)
        | (go_at_call 45; refine (HWD.out _).mono ?_; rintro e w2 ⟨rfl, hb2⟩))
      go_ret
      exact ⟨by rw [HV.out]; rfl, HB1.out.st hb2⟩

end Go.Proofs.YtelcmkccfjdmjaaGreatDoor
