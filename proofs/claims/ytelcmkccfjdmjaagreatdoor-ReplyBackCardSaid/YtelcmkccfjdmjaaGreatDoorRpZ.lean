/-
  Walk of package reply: the line of a reply.
-/
import Derived.Test.YtelcmkccfjdmjaaGreatDoorProg
import Derived.Test.YtelcmkccfjdmjaaGreatDoorRpY
namespace Go.Proofs.YtelcmkccfjdmjaaGreatDoor
open Go Go.Proofs Go.RowKit Go.Shelf Go.Sort

theorem tokP_num {r : RepD} {i : Nat} (h : i < r.nums.length) : tokP r (i + 1) 0 0 = tokP r i 0 0 ++ [printI r.nums[i]] := by
  unfold tokP
  rw [List.take_succ_eq_append_getElem h]
  simp only [List.map_append, List.map_cons, List.map_nil, List.take_zero, List.append_nil, List.cons_append, List.append_assoc, List.nil_append]
theorem tokP_rt {r : RepD} {j : Nat} (h : j < r.rts.length) : tokP r r.nums.length (j + 1) 0 = tokP r r.nums.length j 0 ++ [routeT r.rts[j]] := by
  unfold tokP
  rw [List.take_succ_eq_append_getElem h]
  simp only [List.map_append, List.map_cons, List.map_nil, List.take_zero, List.append_nil, List.cons_append, List.append_assoc, List.nil_append]
theorem tokP_word {r : RepD} {k : Nat} (h : k < r.words.length) : tokP r r.nums.length r.rts.length (k + 1) = tokP r r.nums.length r.rts.length k ++ [⟨#[61]⟩ ++ r.words[k]] := by
  unfold tokP
  rw [List.take_succ_eq_append_getElem h]
  simp only [List.map_append, List.map_cons, List.map_nil, List.take_zero, List.append_nil, List.cons_append, List.append_assoc, List.nil_append]
  rfl
theorem tokP_start (r : RepD) : tokP r 0 0 0 = [⟨#[111, 107]⟩, r.name] := rfl

theorem owns_put {W : World} {base : Nat} {e : TypeId} {size n : Nat} {v : Value} {xs : List Value} (h : W.ownsRow base e size v n xs) {a : Addr} (hne : v.ownBlock ≠ some a.block) (u : Value) : (W.setCell a u).ownsRow base e size v n xs := by
  refine ⟨h.1, ?_⟩
  rcases h.2 with h2 | ⟨g, cap, cur, hv, hbg, hg, r⟩
  · exact .inl h2
  · refine .inr ⟨g, cap, cur, hv, hbg, ?_, r⟩
    rw [Below.heap_setCell _ _ _ _ (fun e => hne (by rw [hv, ← e]; rfl))]
    exact hg

/-- a captured row -/
def PutS (W : World) (base C : Nat) (l : List ByteArray) : Prop := ∃ v, P1 W C v ∧ W.ownsRow base 9 1 v l.length (l.map encS) ∧ v.ownBlock ≠ some C
theorem PutS.go {W W' : World} {base C : Nat} {l : List ByteArray} (h : PutS W base C l) (hb : Below W.heap.size W W') : PutS W' base C l := by
  obtain ⟨v, h1, h2, h3⟩ := h
  exact ⟨v, h1.go hb, rt_owns_go h2 hb, h3⟩
theorem PutS.lt {W : World} {base C : Nat} {l : List ByteArray} (h : PutS W base C l) : C < W.heap.size := by
  obtain ⟨v, h1, -⟩ := h
  exact h1.lt

theorem put_far {v : Value} {g C n cap z : Nat} (h3 : v.ownBlock ≠ some C) (hat : v.ownBlock = some g ∨ g = z) (hlt : C < z) : (Value.slice (some ⟨g, 0, none⟩) n cap).ownBlock ≠ some C := by
  intro e
  have e2 : g = C := Option.some.inj e
  rcases hat with h | h
  · exact h3 (by rw [h, e2])
  · omega

set_option maxRecDepth 100000 in
theorem ReplyPut_any (l : List ByteArray) (x : ByteArray) (base C a : Nat) (w : World) (hl : l.length ≤ 1000000) (hb : base ≤ C) (h : PutS w base C l) (hx : ∀ j u, [encS x][j]? = some u → w.cell? ((⟨a, 0, none⟩ : Addr).add j) = some u) :
    Calls Tryz.prog 41 #[.slice (some ⟨a, 0, none⟩) 1 1, .pointer (some ⟨C, 0, none⟩)] w fun e w' => e = .returned (.tuple #[]) ∧ PutS w' base C (l ++ [x]) ∧ Below base w w' := by
  have hlt := h.lt
  obtain ⟨v, h1, h2, h3⟩ := h
  have H1 := Lib.hid h1
  have H2 := Lib.hid h2
  have H3 := Lib.hid h3
  have HX := Lib.hid hx
  obtain ⟨ao, cap, rfl, -⟩ := Cel.of_owns h2
  obtain ⟨q0, q1⟩ := H1.out
  clear h1 h2 h3 hx
  go_enter Tryz.func41, Tryz.ntmps41
  go_wp2_with (at_builtin; go_must ((with_reducible refine wpList_app base 9 _ 1 16 rt_elem Tryz.underlying26 (.slice ao l.length cap) l.length _ ⟨a, 0, none⟩ 1 1 [encS x] ?_ ?_ H2.out HX.out (rt_ones _) ⟨rfl, by decide, by omega, by omega, by omega⟩ ?_); (· rfl); (· rfl); intro g6 cap6 w6 hown hgrow hbl hat hlt6; (have HO6 := Lib.hid hown; have HB6 := Lib.hid hbl; have HP6 := Lib.hid (H1.out.eq (hgrow.block C hlt (fun e => H3.out e.symm))); have HN6 := Lib.hid (show (Value.slice (some ⟨g6, 0, none⟩) (l.length + 1) cap6).ownBlock ≠ some C from put_far H3.out hat hlt); clear hown hgrow hbl hat); obtain ⟨c0, c1⟩ := HP6.out))
  (try simp only [Exit.inBlock, Exit.then])
  first | refine bodyPost_ret (results_none rfl _ _ _) rfl ?_ | refine bodyPost_end (results_none rfl _ _ _) rfl ?_
  refine ⟨rfl, ⟨.slice (some ⟨g6, 0, none⟩) (l.length + 1) cap6, HP6.out.set _, ?_, HN6.out⟩, HB6.out.setCell hb _⟩
  rw [List.length_append, List.map_append]
  exact owns_put HO6.out HN6.out _

set_option maxRecDepth 100000 in
set_option maxHeartbeats 8000000 in
theorem ReplyPrint_any (r : RepD) (v : Value) (w : World) (hv : RepV w r v) (hs : SmR r) (hp : Pow10 w) :
    Calls Tryz.prog 15 #[v] w fun e w' => e = .returned (.string (printR r)) ∧ Below w.heap.size w w' := by
  by_cases hf : r.f = 0
  · have HR := Lib.hid (fun W h h' => ReplyRight_any r v W h hs h')
    have HRV := Lib.hid hv
    have HT := Lib.hid hp
    obtain ⟨an, cn, ar, cr, aw, cw, ts, rfl, han, har, haw, hat, hac⟩ := hv
    obtain ⟨W0, hW0⟩ : ∃ W0, W0 = w.alloc (Obj.cells #[.int .i64 r.f, .string r.name, .slice an r.nums.length cn, .slice ar r.rts.length cr, .slice aw r.words.length cw] 28) := ⟨_, rfl⟩
    have HP := Lib.hid (show P5 W0 w.heap.size (.int .i64 r.f) (.string r.name) (.slice an r.nums.length cn) (.slice ar r.rts.length cr) (.slice aw r.words.length cw) by rw [hW0]; exact P5.new _ _ _ _ _ _ _)
    have HB0 := Lib.hid (show Below w.heap.size w W0 by rw [hW0]; exact Below.of_al _ _)
    have HWE := Lib.hid hW0.symm
    have hf2 : (r.f != 0) = false := by simpa using hf
    clear hW0 hp
    cases hr : rightR r with
    | false =>
      have HV := Lib.hid (show printR r = ByteArray.empty by unfold printR; rw [if_pos hr])
      rw [hr] at HR
      generalize printR r = q at *
      clear hr han har haw hat hac hs hf
      go_enter Tryz.func15, Tryz.ntmps15
      go_wp2_with (go_at_call 17; rw [HWE.out]; refine (HR.out _ (HRV.out.go HB0.out) (tabIs_go HT.out HB0.out)).mono ?_; rintro e w1 ⟨rfl, hb1⟩)
      go_ret
      exact ⟨by rw [HV.out]; rfl, HB0.out.st hb1⟩
    | true =>
      rw [hr] at HR
      have HV := Lib.hid (show printR r = joinB 32 (tokP r r.nums.length r.rts.length r.words.length) by
        have := lineP_end r
        unfold lineP at this
        rw [this]
        unfold printR; rw [if_neg (by rw [hr]; simp), if_neg (by simpa using hf)])
      have e1 : ts.length = r.rts.length := by rw [← hat]; simp
      have HT0 := Lib.hid (tokP_start r)
      have HT1 := Lib.hid (fun i h => tokP_num (r := r) (i := i) h)
      have HT2 := Lib.hid (fun i (h : i < ts.length) => (by
        have h2 : i < r.rts.length := by omega
        have h3 := tokP_rt h2
        have h4 : r.rts[i] = ts[i].r := by simp only [← hat, List.getElem_map]
        rw [h4] at h3
        exact h3 : tokP r r.nums.length (i + 1) 0 = tokP r r.nums.length i 0 ++ [routeT ts[i].r]))
      have HT3 := Lib.hid (fun i h => tokP_word (r := r) (k := i) h)
      have HLN := Lib.hid (tokP_length hs)
      have HJZ := Lib.hid (lineP_size hs)
      unfold lineP at HJZ
      have HNU := Lib.hid (fun i (h : i < r.nums.length) => hs.nu r.nums[i] (List.getElem_mem h))
      have HTY := Lib.hid (fun i (h : i < ts.length) => (by
        have h4 : ts[i].r ∈ r.rts := by rw [← hat]; exact List.mem_map_of_mem (List.getElem_mem h)
        exact hs.rt _ h4 : tyRt ts[i].r ∧ ts[i].r.es.length ≤ 2000))
      have HWZ := Lib.hid (fun i (h : i < r.words.length) => hs.ws r.words[i] (List.getElem_mem h))
      have HLI := Lib.hid (lie_of hac hat hs.lowE)
      have HN := Lib.hid e1
      have HAN := Lib.hid han
      have HAR := Lib.hid har
      have HAW := Lib.hid haw
      have l1 := hs.n1
      have l2 := hs.n2
      have l3 := hs.n3
      have l4 := hs.nm
      generalize tokP r = T at *
      generalize printR r = q at *
      clear hf hr hs han har haw hat hac e1
      go_enter Tryz.func15, Tryz.ntmps15
      go_wp2_with (go_at_call 17; rw [HWE.out]; refine (HR.out _ (HRV.out.go HB0.out) (tabIs_go HT.out HB0.out)).mono ?_; rintro e w1 ⟨rfl, hb1⟩; (have HP1 := Lib.hid (HP.out.go hb1); have HB1 := Lib.hid (HB0.out.st hb1); have HL1 := Lib.hid (show w.heap.size < w1.heap.size from HP1.out.lt)); obtain ⟨x0, x1, x2, x3, x4, -⟩ := HP1.out; have x1a := fun O => cell_later (Below.of_al w1 O) x1; have x1b := fun O O' => cell_later ((Below.of_al w1 O).al O') x1)
      clear x0 x1 x2 x3 x4 x1a x1b
      obtain ⟨b, hbq⟩ : ∃ b, b = w1.heap.size := ⟨_, rfl⟩
      have HKP := Lib.hid (fun W (h : Below b w1 W) => HP1.out.eq (h.block w.heap.size (by have := HL1.out; omega)))
      have HKW := Lib.hid (fun W (h : Below b w1 W) => HB1.out.trans (h.mono (show w.heap.size ≤ b by have := HL1.out; omega)))
      obtain ⟨W2, hW2⟩ : ∃ W2, W2 = (w1.alloc (Obj.cells #[.string ⟨#[111, 107]⟩] 9)).alloc (Obj.cells #[.slice (some ⟨w1.heap.size, 0, none⟩) 1 1] 26) := ⟨_, rfl⟩
      have HS2 := Lib.hid (show PutS W2 b (b + 1) [⟨#[111, 107]⟩] by
        rw [hW2, hbq]
        refine ⟨.slice (some ⟨w1.heap.size, 0, none⟩) 1 1, ⟨by go_simp, by go_simp⟩, ?_, fun e => by have := Option.some.inj e; simp at this⟩
        exact World.ownsRow.alloc (World.ownsRow_lit w1 #[.string ⟨#[111, 107]⟩] 1 (Nat.le_refl _) (by unfold maxLen; omega) rfl) _)
      have HB2 := Lib.hid (show Below b w1 W2 by rw [hW2, hbq]; exact (Below.of_al _ _).al _)
      have HZ2 := Lib.hid (show W2.heap.size = b + 2 by rw [hW2, hbq]; simp)
      have hbz : b ≤ w1.heap.size := by omega
      rw [← hW2, ← hbq]
      clear hW2 hbq hb1 HP1 HB1 HL1
      refine (ReplyPut_any [⟨#[111, 107]⟩] r.name b (b + 1) (b + 1 + 1) _ (by decide) (by omega) (HS2.out.go (Below.of_al _ _)) (one_at _ _ _ (by have := HZ2.out; omega))).mono ?_
      rintro e w2 ⟨rfl, hs2, hb2⟩
      have HS3 := Lib.hid (show PutS w2 b (b + 1) (T 0 0 0) by rw [HT0.out]; exact hs2)
      have HB3 := Lib.hid ((HB2.out.alloc (by have := HZ2.out; omega) _).trans hb2)
      clear hs2 hb2 HS2 HB2 HZ2
      obtain ⟨x0, x1, x2, x3, x4, -⟩ := HKP.out _ HB3.out
      go_wp2
      clear x0 x1 x2 x3 x4
      go_loopg [31] r.nums.length (fun g v31 wr => ∃ k : Nat, k ≤ r.nums.length ∧ r.nums.length - k ≤ g ∧ v31 = .int .i64 k ∧ Aside (PutS wr b (b + 1) (T k 0 0)) ∧ Aside (Below b w1 wr))
      case atStart => exact ⟨0, Nat.zero_le _, by omega, rfl, HS3.out, HB3.out⟩
      case round =>
        obtain ⟨k, hk, hg, rfl, HS, HB⟩ := hrel
        have hk0 : (0 : Int) ≤ (k : Int) := by omega
        have hzt := HLN.out k 0 0
        obtain ⟨x0, x1, x2, x3, x4, -⟩ := HKP.out _ HB.out
        by_cases hlt : k < r.nums.length
        · have hlt3 : (k : Int) < (r.nums.length : Int) := by omega
          obtain ⟨b1, o1, hao, y0⟩ := (HAN.out.go (HKW.out _ HB.out)).at hlt
          subst hao
          have HX := Lib.hid (HT1.out k hlt)
          have hnx := HNU.out k hlt
          have HPI := Lib.hid (fun W h => Print_any r.nums[k] hnx.1 hnx.2 W h)
          have hbw : b ≤ wr.heap.size := by have := HS.out.lt; omega
          generalize r.nums[k] = x at *
          generalize printI x = px at *
          generalize T k 0 0 = t0 at *
          go_wp2_with (first
            | (go_at_call 42; refine (HPI.out _ (tabIs_go HT.out (HKW.out _ HB.out))).mono ?_; rintro e w5 ⟨rfl, hb5⟩)
            | (go_at_call 41; refine (ReplyPut_any t0 px b (b + 1) _ _ (by omega) (by omega) ((HS.out.go hb5).go (Below.of_al _ _)) (rt_one _ _ _)).mono ?_; rintro e w6 ⟨rfl, hs6, hb6⟩; (have HS6 := Lib.hid hs6; have HB6 := Lib.hid (((bel_go HB.out hb5 (by omega)).alloc (by have := hb5.size; omega) _).trans hb6); clear hs6 hb6)))
          go_roundg (r.nums.length - (k + 1))
          case measure => omega
          case rel => exact ⟨k + 1, by omega, by omega, by go_num, by rw [HX.out]; exact HS6.out, HB6.out⟩
        · obtain rfl : k = r.nums.length := by omega
          obtain ⟨w3, hw3⟩ : ∃ w3, w3 = wr := ⟨_, rfl⟩
          subst hw3
          go_wp2
          clear x0 x1 x2 x3 x4
          go_loopg [44] r.rts.length (fun g v44 wr => ∃ k : Nat, k ≤ r.rts.length ∧ r.rts.length - k ≤ g ∧ v44 = .int .i64 k ∧ Aside (PutS wr b (b + 1) (T r.nums.length k 0)) ∧ Aside (Below b w1 wr))
          case atStart => exact ⟨0, Nat.zero_le _, by omega, rfl, HS.out, HB.out⟩
          case round =>
            clear HS HB
            obtain ⟨k, hk, hg, rfl, HS, HB⟩ := hrel
            have hk0 : (0 : Int) ≤ (k : Int) := by omega
            have hzt := HLN.out r.nums.length k 0
            obtain ⟨x0, x1, x2, x3, x4, -⟩ := HKP.out _ HB.out
            by_cases hlt : k < r.rts.length
            · have hlt3 : (k : Int) < (r.rts.length : Int) := by omega
              have hltt : k < ts.length := by have := HN.out; omega
              obtain ⟨b1, o1, hao, y0, y1⟩ := (HAR.out.go (HKW.out _ HB.out)).rt hltt
              subst hao
              have HX := Lib.hid (HT2.out k hltt)
              have hty := HTY.out k hltt
              have hc := (HLI.out ts[k] (List.getElem_mem hltt)).1.go (HKW.out _ HB.out)
              have HC := Lib.hid hc
              have HPI := Lib.hid (fun W (h : Cel W ts[k].ao (ts[k].r.es.map encI)) h' => Route_any ts[k].r ts[k].ao ts[k].cap W hty.1 h h')
              have hbw : b ≤ wr.heap.size := by have := HS.out.lt; omega
              clear hc hty
              generalize ts[k] = x at *
              generalize routeT x.r = px at *
              generalize T r.nums.length k 0 = t0 at *
              go_wp2_with (first
                | (go_at_call 43; refine (HPI.out _ (HC.out.go (Below.of_al _ _)) (tabIs_go HT.out ((HKW.out _ HB.out).al _))).mono ?_; rintro e w5 ⟨rfl, hb5⟩)
                | (go_at_call 41; refine (ReplyPut_any t0 px b (b + 1) _ _ (by omega) (by omega) (((HS.out.go (Below.of_al _ _)).go hb5).go (Below.of_al _ _)) (rt_one _ _ _)).mono ?_; rintro e w6 ⟨rfl, hs6, hb6⟩; (have HS6 := Lib.hid hs6; have HB6 := Lib.hid (((bel_go (HB.out.alloc hbw _) hb5 (by omega)).alloc (by have := hb5.size; simp at this; omega) _).trans hb6); clear hs6 hb6)))
              go_roundg (r.rts.length - (k + 1))
              case measure => omega
              case rel => exact ⟨k + 1, by omega, by omega, by go_num, by rw [HX.out]; exact HS6.out, HB6.out⟩
            · obtain rfl : k = r.rts.length := by omega
              obtain ⟨w4, hw4⟩ : ∃ w4, w4 = wr := ⟨_, rfl⟩
              subst hw4
              go_wp2
              clear x0 x1 x2 x3 x4
              go_loopg [57] r.words.length (fun g v57 wr => ∃ k : Nat, k ≤ r.words.length ∧ r.words.length - k ≤ g ∧ v57 = .int .i64 k ∧ Aside (PutS wr b (b + 1) (T r.nums.length r.rts.length k)) ∧ Aside (Below b w1 wr))
              case atStart => exact ⟨0, Nat.zero_le _, by omega, rfl, HS.out, HB.out⟩
              case round =>
                clear HS HB
                obtain ⟨k, hk, hg, rfl, HS, HB⟩ := hrel
                have hk0 : (0 : Int) ≤ (k : Int) := by omega
                have hzt := HLN.out r.nums.length r.rts.length k
                obtain ⟨x0, x1, x2, x3, x4, -⟩ := HKP.out _ HB.out
                by_cases hlt : k < r.words.length
                · have hlt3 : (k : Int) < (r.words.length : Int) := by omega
                  obtain ⟨b1, o1, hao, y0⟩ := (HAW.out.go (HKW.out _ HB.out)).at hlt
                  subst hao
                  have HX := Lib.hid (HT3.out k hlt)
                  have hps := HWZ.out k hlt
                  have hbw : b ≤ wr.heap.size := by have := HS.out.lt; omega
                  generalize r.words[k] = x at *
                  generalize T r.nums.length r.rts.length k = t0 at *
                  go_wp2_with (go_at_call 41; refine (ReplyPut_any t0 (⟨#[61]⟩ ++ x) b (b + 1) _ _ (by omega) (by omega) (HS.out.go (Below.of_al _ _)) (rt_one _ _ _)).mono ?_; rintro e w6 ⟨rfl, hs6, hb6⟩; (have HS6 := Lib.hid hs6; have HB6 := Lib.hid ((HB.out.alloc hbw _).trans hb6); clear hs6 hb6))
                  go_roundg (r.words.length - (k + 1))
                  case measure => omega
                  case rel => exact ⟨k + 1, by omega, by omega, by go_num, by rw [HX.out]; exact HS6.out, HB6.out⟩
                · obtain rfl : k = r.words.length := by omega
                  obtain ⟨v9, hp9, ho9, -⟩ := HS.out
                  have HO9 := Lib.hid ho9
                  obtain ⟨ao9, cap9, rfl, hc9⟩ := Cel.of_owns ho9
                  have hcap := rt_owns_cap ho9
                  obtain ⟨q0, q1⟩ := hp9
                  have HC9 := Lib.hid hc9
                  have HJ := Lib.hid (fun W h => sJoinB_any 32 (T r.nums.length r.rts.length r.words.length) ao9 cap9 W (by omega) hcap (by have := HJZ.out r.nums.length r.rts.length r.words.length; omega) h)
                  generalize joinB 32 (T r.nums.length r.rts.length r.words.length) = jt at *
                  clear ho9 hc9 hcap
                  go_wp2_with (go_at_call 44; refine (HJ.out _ HC9.out).mono ?_; rintro e w9 ⟨rfl, hb9⟩)
                  go_ret
                  exact ⟨by rw [HV.out]; rfl, (HKW.out _ HB.out).st hb9⟩
  · exact PrintF_any r v w hv hf hs.lowR

end Go.Proofs.YtelcmkccfjdmjaaGreatDoor
