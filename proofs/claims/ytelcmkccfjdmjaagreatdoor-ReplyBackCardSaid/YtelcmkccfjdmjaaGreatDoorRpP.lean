/-
  Walks: rows of routes: is there one, are two rows the same.
-/
import Derived.Test.YtelcmkccfjdmjaaGreatDoorProg
import Derived.Test.YtelcmkccfjdmjaaGreatDoorRpN
import Derived.Test.YtelcmkccfjdmjaaGreatDoorRefCmp
import Derived.Test.YtelcmkccfjdmjaaGreatDoorSame
namespace Go.Proofs.YtelcmkccfjdmjaaGreatDoor
open Go Go.Proofs Go.RowKit Go.Shelf Go.Sort

abbrev encRt (t : RtC) : Value := .agg #[.slice t.ao t.r.es.length t.cap, .int .u64 t.r.w]
theorem Cel.rt {w : World} {ao : Option Addr} {ts : List RtC} (h : Cel w ao (flatR ts)) {i : Nat} (hi : i < ts.length) :
    ∃ b o, ao = some ⟨b, o, none⟩ ∧ w.cell? ⟨b, o + i * 2, none⟩ = some (.slice ts[i].ao ts[i].r.es.length ts[i].cap) ∧ w.cell? ⟨b, o + i * 2 + 1, none⟩ = some (.int .u64 ts[i].r.w) := by
  obtain ⟨h1, h2⟩ := flatR_at ts i hi
  obtain ⟨b, o, e, c1⟩ := h _ _ h1
  obtain ⟨b', o', e', c2⟩ := h _ _ h2
  rw [e] at e'
  cases e'
  exact ⟨b, o, e, by rw [Nat.mul_comm]; exact c1, by rw [Nat.mul_comm, Nat.add_assoc]; exact c2⟩
theorem lexI_zero : ∀ {a b : List Int}, lexI a b = 0 → a = b
  | [], [], _ => rfl
  | [], y :: b, h => by simp [lexI] at h
  | x :: a, [], h => by simp [lexI] at h
  | x :: a, y :: b, h => by
    by_cases e : cmpI x y = 0
    · have hx : x = y := by
        unfold cmpI at e
        split at e
        · cases e
        · split at e
          · cases e
          · omega
      have h2 : lexI a b = 0 := by simpa [lexI, e] using h
      rw [hx, lexI_zero h2]
    · simp [lexI, e] at h
theorem cmpR_zero (x y : RtD) : (cmpR x.w x.es y.w y.es == 0) = decide (x = y) := by
  by_cases h : x = y
  · subst h
    rw [cmpR_self]
    simp
  · rw [decide_eq_false h, beq_eq_false_iff_ne]
    intro e
    apply h
    obtain ⟨xe, xw⟩ := x
    obtain ⟨ye, yw⟩ := y
    simp only at e
    unfold cmpR at e
    by_cases e1 : cmpI xw yw = 0
    · rw [if_pos e1] at e
      have hx : xw = yw := by
        unfold cmpI at e1
        split at e1
        · cases e1
        · split at e1
          · cases e1
          · omega
      rw [hx, lexI_zero e]
    · rw [if_neg e1] at e
      exact absurd e e1

set_option maxHeartbeats 400000 in
theorem eqWide_any (ao bo : Option Addr) (ca cb : Nat) (la lb : List Int) (w : World) (hla : la.length ≤ 9223372036854775807) (hlb : lb.length ≤ 9223372036854775807)
    (ha : Cel w ao (la.map encW)) (hb : Cel w bo (lb.map encW)) :
    Calls Tryz.prog 55 #[.slice ao la.length ca, .slice bo lb.length cb] w fun e w' => e = .returned (.bool (decide (la = lb))) ∧ ∃ n, w' = w.drewN n := by
  have HA := Lib.hid ha
  have HB := Lib.hid hb
  clear ha hb
  by_cases hl : la.length = lb.length
  · have hn2 : ((la.length : Int) != (lb.length : Int)) = false := by simp; omega
    have HN := Lib.hid hl
    clear hl
    have HD := Lib.hid (fun k (h1 : k < la.length) (h2 : la[k] ≠ lb[k]'(by have := HN.out; omega)) => (decide_eq_false (fun e => h2 (by subst e; rfl)) : decide (la = lb) = false))
    have HE := Lib.hid (fun h : (∀ j (h : j < la.length), la[j] = lb[j]'(by have := HN.out; omega)) => (decide_eq_true (List.ext_getElem HN.out (fun i h1 h2 => h i h1)) : decide (la = lb) = true))
    generalize decide (la = lb) = r at *
    go_enter Tryz.func55, Tryz.ntmps55
    go_wp2
    go_loopg [13] la.length (fun g i wr => ∃ k q : Nat, k ≤ la.length ∧ la.length - k ≤ g ∧ i = .int .i64 k ∧ wr = w.drewN q ∧ Aside (∀ j (h : j < la.length), j < k → la[j] = lb[j]'(by have := HN.out; omega)))
    case atStart => exact ⟨0, 0, Nat.zero_le _, by omega, rfl, rfl, fun j _ h => absurd h (Nat.not_lt_zero _)⟩
    case round =>
      obtain ⟨k, q, hk, hg, rfl, rfl, HF⟩ := hrel
      by_cases hlt : k < la.length
      · have hlt2 : k < lb.length := by have := HN.out; omega
        have hlt3 : (k : Int) < (la.length : Int) := by omega
        have hlt4 : (k : Int) < (lb.length : Int) := by omega
        have hk0 : (0 : Int) ≤ (k : Int) := by omega
        obtain ⟨b1, o1, hao, hc1⟩ := HA.out.at hlt
        obtain ⟨b2, o2, hbo, hc2⟩ := HB.out.at hlt2
        subst hao hbo
        have HD2 := Lib.hid (HD.out k hlt)
        have HM := Lib.hid (fun h : la[k] = lb[k] => (fun j (h1 : j < la.length) (h2 : j < k + 1) => (by
          by_cases e : j = k
          · subst e; exact h
          · exact HF.out j h1 (by omega) : la[j] = lb[j]'(by have := HN.out; omega))))
        generalize la[k] = x at *
        generalize lb[k] = y at *
        go_wp2
        go_quiet (fail)
        go_wp2
        · have ht := ne_i (by assumption)
          go_ret
          exact ⟨by rw [HD2.out ht]; rfl, q + nq, World.drewN_drewN _ _ _⟩
        · have ht := eq_i (by assumption)
          go_roundg (la.length - (k + 1))
          case measure => omega
          case rel => exact ⟨k + 1, q + nq, by omega, by omega, by go_num, rfl, HM.out ht⟩
      · obtain rfl : k = la.length := by omega
        go_wp2
        go_ret
        exact ⟨by rw [HE.out (fun j h => HF.out j h h)]; rfl, q, rfl⟩
  · have hn2 : ((la.length : Int) != (lb.length : Int)) = true := by simp; omega
    have HN := Lib.hid (decide_eq_false (fun e => hl (by subst e; rfl)) : decide (la = lb) = false)
    clear hl
    go_enter Tryz.func55, Tryz.ntmps55
    go_wp2
    go_ret
    exact ⟨by rw [HN.out]; rfl, 0, rfl⟩
set_option maxHeartbeats 400000 in
theorem eqWords_any (ao bo : Option Addr) (ca cb : Nat) (la lb : List ByteArray) (w : World) (hla : la.length ≤ 9223372036854775807) (hlb : lb.length ≤ 9223372036854775807)
    (ha : Cel w ao (la.map encS)) (hb : Cel w bo (lb.map encS)) :
    Calls Tryz.prog 58 #[.slice ao la.length ca, .slice bo lb.length cb] w fun e w' => e = .returned (.bool (decide (la = lb))) ∧ ∃ n, w' = w.drewN n := by
  have HA := Lib.hid ha
  have HB := Lib.hid hb
  clear ha hb
  by_cases hl : la.length = lb.length
  · have hn2 : ((la.length : Int) != (lb.length : Int)) = false := by simp; omega
    have HN := Lib.hid hl
    clear hl
    have HD := Lib.hid (fun k (h1 : k < la.length) (h2 : la[k] ≠ lb[k]'(by have := HN.out; omega)) => (decide_eq_false (fun e => h2 (by subst e; rfl)) : decide (la = lb) = false))
    have HE := Lib.hid (fun h : (∀ j (h : j < la.length), la[j] = lb[j]'(by have := HN.out; omega)) => (decide_eq_true (List.ext_getElem HN.out (fun i h1 h2 => h i h1)) : decide (la = lb) = true))
    generalize decide (la = lb) = r at *
    go_enter Tryz.func58, Tryz.ntmps58
    go_wp2
    go_loopg [13] la.length (fun g i wr => ∃ k q : Nat, k ≤ la.length ∧ la.length - k ≤ g ∧ i = .int .i64 k ∧ wr = w.drewN q ∧ Aside (∀ j (h : j < la.length), j < k → la[j] = lb[j]'(by have := HN.out; omega)))
    case atStart => exact ⟨0, 0, Nat.zero_le _, by omega, rfl, rfl, fun j _ h => absurd h (Nat.not_lt_zero _)⟩
    case round =>
      obtain ⟨k, q, hk, hg, rfl, rfl, HF⟩ := hrel
      by_cases hlt : k < la.length
      · have hlt2 : k < lb.length := by have := HN.out; omega
        have hlt3 : (k : Int) < (la.length : Int) := by omega
        have hlt4 : (k : Int) < (lb.length : Int) := by omega
        have hk0 : (0 : Int) ≤ (k : Int) := by omega
        obtain ⟨b1, o1, hao, hc1⟩ := HA.out.at hlt
        obtain ⟨b2, o2, hbo, hc2⟩ := HB.out.at hlt2
        subst hao hbo
        have HD2 := Lib.hid (HD.out k hlt)
        have HM := Lib.hid (fun h : la[k] = lb[k] => (fun j (h1 : j < la.length) (h2 : j < k + 1) => (by
          by_cases e : j = k
          · subst e; exact h
          · exact HF.out j h1 (by omega) : la[j] = lb[j]'(by have := HN.out; omega))))
        generalize la[k] = x at *
        generalize lb[k] = y at *
        go_wp2
        go_quiet (fail)
        go_wp2
        · have ht := ne_s (by assumption)
          go_ret
          exact ⟨by rw [HD2.out ht]; rfl, q + nq, World.drewN_drewN _ _ _⟩
        · have ht := eq_s (by assumption)
          go_roundg (la.length - (k + 1))
          case measure => omega
          case rel => exact ⟨k + 1, q + nq, by omega, by omega, by go_num, rfl, HM.out ht⟩
      · obtain rfl : k = la.length := by omega
        go_wp2
        go_ret
        exact ⟨by rw [HE.out (fun j h => HF.out j h h)]; rfl, q, rfl⟩
  · have hn2 : ((la.length : Int) != (lb.length : Int)) = true := by simp; omega
    have HN := Lib.hid (decide_eq_false (fun e => hl (by subst e; rfl)) : decide (la = lb) = false)
    clear hl
    go_enter Tryz.func58, Tryz.ntmps58
    go_wp2
    go_ret
    exact ⟨by rw [HN.out]; rfl, 0, rfl⟩
set_option maxHeartbeats 400000 in
theorem IndexFunc_r (g : Nat) (cb : Array Value) (p : RtC → Bool) (ao : Option Addr) (cap : Nat) (l : List RtC) (w : World) (hen : Enters Tryz.prog g)
    (hp : PredOn Tryz.prog g cb encRt p l w) (hl : l.length ≤ 9223372036854775807) (hc : Cel w ao (flatR l)) :
    Calls Tryz.prog 95 #[.slice ao l.length cap, .func (.func g) #[] cb] w fun e w' => e = .returned (.int .i64 (idxI p l)) ∧ Below w.heap.size w w' := by
  have HP := Lib.hid hp
  have HC := Lib.hid hc
  clear hp hc
  unfold Enters at hen
  go_enter Tryz.func95, Tryz.ntmps95
  go_wp2
  go_loopg [8] l.length (fun g i wr => ∃ k : Nat, k ≤ l.length ∧ l.length - k ≤ g ∧ i = .int .i64 k ∧ Aside (Below w.heap.size w wr) ∧ Aside (∀ j (h : j < l.length), j < k → p l[j] = false))
  case atStart => exact ⟨0, Nat.zero_le _, by omega, rfl, Below.refl _ _, fun j _ h => absurd h (Nat.not_lt_zero _)⟩
  case round =>
    obtain ⟨k, hk, hg, rfl, HB, HA⟩ := hrel
    by_cases hlt : k < l.length
    · obtain ⟨b, o, hao, hcell, hcell2⟩ := (HC.out.below HB.out (Nat.le_refl _)).rt hlt
      have HQ := Lib.hid (HP.out wr l[k] HB.out (List.getElem_mem hlt))
      have HN := Lib.hid (fun h : p l[k] = true => idxI_hit p l k hlt h (fun j h1 h2 => HA.out j h1 h2))
      have HM := Lib.hid (fun h : p l[k] = false => (fun j (h1 : j < l.length) (h2 : j < k + 1) => (by
        by_cases e : j = k
        · subst e; exact h
        · exact HA.out j h1 (by omega) : p l[j] = false)))
      generalize hx : l[k] = x at *
      clear hx
      subst hao
      cases hq : p x with
      | true =>
        have HN2 := Lib.hid (HN.out hq)
        have HQ2 := Lib.hid (hq ▸ HQ.out)
        clear hq
        go_wp2_with (go_at_fn g; refine HQ2.out.mono ?_; rintro e w1 ⟨rfl, hb1⟩)
        go_ret
        exact ⟨by rw [HN2.out]; rfl, HB.out.trans (hb1.mono (by have := HB.out.size; omega))⟩
      | false =>
        have HN2 := Lib.hid (HM.out hq)
        have HQ2 := Lib.hid (hq ▸ HQ.out)
        clear hq
        go_wp2_with (go_at_fn g; refine HQ2.out.mono ?_; rintro e w1 ⟨rfl, hb1⟩)
        go_roundg (l.length - (k + 1))
        case measure => omega
        case rel => exact ⟨k + 1, by omega, by omega, by go_num, HB.out.trans (hb1.mono (by have := HB.out.size; omega)), HN2.out⟩
    · obtain rfl : k = l.length := by omega
      have HN := Lib.hid (idxI_miss p l (fun j h => HA.out j h h))
      go_wp2
      go_ret
      exact ⟨by rw [HN.out]; rfl, HB.out⟩

theorem ContainsFunc_r (g : Nat) (cb : Array Value) (p : RtC → Bool) (ao : Option Addr) (cap : Nat) (l : List RtC) (w : World) (hen : Enters Tryz.prog g)
    (hp : PredOn Tryz.prog g cb encRt p l w) (hl : l.length ≤ 9223372036854775807) (hc : Cel w ao (flatR l)) :
    Calls Tryz.prog 51 #[.slice ao l.length cap, .func (.func g) #[] cb] w fun e w' => e = .returned (.bool (l.any p)) ∧ Below w.heap.size w w' := by
  have HC := Lib.hid (IndexFunc_r g cb p ao cap l w hen hp hl hc)
  have HI := Lib.hid (idxI_any p l)
  clear hp hc hen
  generalize idxI p l = r at *
  go_enter Tryz.func51, Tryz.ntmps51
  go_wp2_with (go_at_call 95; refine HC.out.mono ?_; rintro e w1 ⟨rfl, hb1⟩)
  go_ret
  exact ⟨by rw [← HI.out]; rfl, hb1⟩

/-- rows whose routes lie somewhere -/
def Lie (w : World) (ts : List RtC) : Prop := ∀ t ∈ ts, Cel w t.ao (t.r.es.map encI) ∧ t.r.es.length ≤ 1000000
theorem Lie.go {w w' : World} {ts : List RtC} (h : Lie w ts) (hb : Below w.heap.size w w') : Lie w' ts := fun t ht => ⟨(h t ht).1.go hb, (h t ht).2⟩
theorem mapR_get {ta : List RtC} {i : Nat} (h : i < ta.length) (h2 : i < (ta.map (·.r)).length) : (ta.map (·.r))[i] = ta[i].r := by simp

set_option maxRecDepth 100000 in
set_option maxHeartbeats 2000000 in
theorem equalFuncR_any (ta tb : List RtC) (ao bo : Option Addr) (ca cb : Nat) (w : World) (hla : ta.length ≤ 1000000) (hlb : tb.length ≤ 1000000) (ha : Cel w ao (flatR ta)) (hb : Cel w bo (flatR tb)) (hta : Lie w ta) (htb : Lie w tb) :
    Calls Tryz.prog 56 #[.slice ao ta.length ca, .slice bo tb.length cb, .func (.func 57) #[] #[]] w fun e w' => e = .returned (.bool (decide (ta.map (·.r) = tb.map (·.r)))) ∧ Below w.heap.size w w' := by
  have HA := Lib.hid ha
  have HB := Lib.hid hb
  have HTA := Lib.hid hta
  have HTB := Lib.hid htb
  clear ha hb hta htb
  by_cases hl : ta.length = tb.length
  · have hn2 : ((ta.length : Int) != (tb.length : Int)) = false := by simp; omega
    have HN := Lib.hid hl
    clear hl
    have HD := Lib.hid (fun k (h1 : k < ta.length) (h2 : ta[k].r ≠ (tb[k]'(by have := HN.out; omega)).r) => (decide_eq_false (fun e => h2 (by
      have h3 : (ta.map (·.r))[k]? = (tb.map (·.r))[k]? := by rw [e]
      rw [List.getElem?_map, List.getElem?_map, List.getElem?_eq_getElem h1, List.getElem?_eq_getElem (show k < tb.length by have := HN.out; omega)] at h3
      simpa using h3)) : decide (ta.map (·.r) = tb.map (·.r)) = false))
    have HE := Lib.hid (fun h : (∀ j (h : j < ta.length), ta[j].r = (tb[j]'(by have := HN.out; omega)).r) => (decide_eq_true (List.ext_getElem (by simpa using HN.out) (fun i h1 h2 => by
      rw [mapR_get (by simpa using h1) h1, mapR_get (by simpa using h2) h2]
      exact h i (by simpa using h1))) : decide (ta.map (·.r) = tb.map (·.r)) = true))
    generalize decide (ta.map (·.r) = tb.map (·.r)) = r at *
    go_enter Tryz.func56, Tryz.ntmps56
    go_wp2
    go_loopg [17] ta.length (fun g i wr => ∃ k : Nat, k ≤ ta.length ∧ ta.length - k ≤ g ∧ i = .int .i64 k ∧ Aside (Below w.heap.size w wr) ∧ Aside (∀ j (h : j < ta.length), j < k → ta[j].r = (tb[j]'(by have := HN.out; omega)).r))
    case atStart => exact ⟨0, Nat.zero_le _, by omega, rfl, Below.refl _ _, fun j _ h => absurd h (Nat.not_lt_zero _)⟩
    case round =>
      obtain ⟨k, hk, hg, rfl, HW, HF⟩ := hrel
      by_cases hlt : k < ta.length
      · have hlt2 : k < tb.length := by have := HN.out; omega
        have hlt3 : (k : Int) < (ta.length : Int) := by omega
        have hlt4 : (k : Int) < (tb.length : Int) := by omega
        have hk0 : (0 : Int) ≤ (k : Int) := by omega
        obtain ⟨b1, o1, hao, x0, x1⟩ := (HA.out.go HW.out).rt hlt
        obtain ⟨b2, o2, hbo, y0, y1⟩ := (HB.out.go HW.out).rt hlt2
        subst hao hbo
        have y0a := fun O => cell_later (Below.of_al wr O) y0
        have y1a := fun O => cell_later (Below.of_al wr O) y1
        have HD2 := Lib.hid (HD.out k hlt)
        have HM := Lib.hid (fun h : ta[k].r = tb[k].r => (fun j (h1 : j < ta.length) (h2 : j < k + 1) => (by
          by_cases e : j = k
          · subst e; exact h
          · exact HF.out j h1 (by omega) : ta[j].r = (tb[j]'(by have := HN.out; omega)).r)))
        have H1 := Lib.hid ((HTA.out.go HW.out) ta[k] (List.getElem_mem hlt))
        have H2 := Lib.hid ((HTB.out.go HW.out) tb[k] (List.getElem_mem hlt2))
        generalize ta[k] = x at *
        generalize tb[k] = y at *
        obtain ⟨xa, xc, xr⟩ := x
        obtain ⟨ya, yc, yr⟩ := y
        simp only at x0 x1 y0 y1 y0a y1a HD2 HM H1 H2
        have HS := Lib.hid (fun W h1 h2 => (by
          have h := Same_any xa ya xc yc xr.es yr.es xr.w yr.w W (by have := H1.out.2; omega) (by have := H2.out.2; omega) h1 h2
          rw [cmpR_zero] at h
          exact h : Calls Tryz.prog 57 #[.agg #[.slice xa xr.es.length xc, .int .u64 xr.w], .agg #[.slice ya yr.es.length yc, .int .u64 yr.w]] W fun e w' => e = .returned (.bool (decide (xr = yr))) ∧ Below W.heap.size W w'))
        by_cases hq : xr = yr
        · rw [decide_eq_true hq] at HS
          have HM2 := Lib.hid (HM.out hq)
          clear hq HD2 HM
          go_wp2_with (go_at_call 57; refine (HS.out _ (H1.out.1.go ((Below.of_al _ _).al _)) (H2.out.1.go ((Below.of_al _ _).al _))).mono ?_; rintro e w1 ⟨rfl, hb1⟩)
          go_roundg (ta.length - (k + 1))
          case measure => omega
          case rel => exact ⟨k + 1, by omega, by omega, by go_num, ((HW.out.al _).al _).st hb1, HM2.out⟩
        · rw [decide_eq_false hq] at HS
          have HD3 := Lib.hid (HD2.out hq)
          clear hq HD2 HM
          go_wp2_with (go_at_call 57; refine (HS.out _ (H1.out.1.go ((Below.of_al _ _).al _)) (H2.out.1.go ((Below.of_al _ _).al _))).mono ?_; rintro e w1 ⟨rfl, hb1⟩)
          go_ret
          exact ⟨by rw [HD3.out]; rfl, ((HW.out.al _).al _).st hb1⟩
      · obtain rfl : k = ta.length := by omega
        go_wp2
        go_ret
        exact ⟨by rw [HE.out (fun j h => HF.out j h h)]; rfl, HW.out⟩
  · have hn2 : ((ta.length : Int) != (tb.length : Int)) = true := by simp; omega
    have HN := Lib.hid (decide_eq_false (fun e => hl (by have := congrArg List.length e; simpa using this)) : decide (ta.map (·.r) = tb.map (·.r)) = false)
    clear hl
    go_enter Tryz.func56, Tryz.ntmps56
    go_wp2
    go_ret
    exact ⟨by rw [HN.out]; rfl, Below.refl _ _⟩

end Go.Proofs.YtelcmkccfjdmjaaGreatDoor
